/- The statements' own helpers: number, fact, few. -/
import Derived.Test.YtkcpanaojehgiaaHldE
namespace Go.Proofs.Ytkcpanaojehgiaa
open Go.RowKit
set_option linter.unusedVariables false
set_option linter.unusedSimpArgs false

set_option maxRecDepth 100000 in
set_option maxHeartbeats 2000000 in
theorem number_any (n : Int) (w : World) (R : Ending → World → Prop) (hR : ∀ w', Below w.heap.size w w' → R (.returned (.agg #[.int .i64 1, .int .i64 n, .string ⟨#[]⟩])) w') : Calls Try.prog 29 #[.int .i64 n] w R := by
  have hB := alloc_below w (.cells #[.int .i64 1, .int .i64 n, .string ⟨#[]⟩] 47)
  have hb := Blk.new w [.int .i64 1, .int .i64 n, .string ⟨#[]⟩] 47 rfl
  have hr := hR _ hB
  have hrv := hb.cells.runVar (P := Try.prog) (t := 47) (fun _ => by kernel_rfl) (fun _ => by kernel_rfl)
  have Hr := Lib.hid hr
  have Hrv := Lib.hid hrv
  clear hR hB hb hr hrv
  go_enter Try.func29, Try.ntmps29
  go_wp2_with fail
  exact ret_cell rfl rfl Hrv.out rfl Hr.out
def wholeL : List Sp := [⟨-9223372036854775808, 9223372036854775807⟩]
def set6 (w : World) (b : Nat) (v0 v1 v2 v3 v4 v5 : Value) : World :=
  (((((w.setCell ⟨b, 0, none⟩ v0).setCell ⟨b, 1, none⟩ v1).setCell ⟨b, 2, none⟩ v2).setCell ⟨b, 3, none⟩ v3).setCell ⟨b, 4, none⟩ v4).setCell ⟨b, 5, none⟩ v5
theorem Blk.set6 {w : World} {b : Nat} {t : TypeId} {x0 x1 x2 x3 x4 x5 : Value} (h : Blk w b [x0, x1, x2, x3, x4, x5] t) (v0 v1 v2 v3 v4 v5 : Value) : Blk (set6 w b v0 v1 v2 v3 v4 v5) b [v0, v1, v2, v3, v4, v5] t :=
  (((((h.set 0 v0).set 1 v1).set 2 v2).set 3 v3).set 4 v4).set 5 v5
theorem below_set6 {B : Nat} {w w' : World} (h : Below B w w') {b : Nat} (hb : B ≤ b) (v0 v1 v2 v3 v4 v5 : Value) : Below B w (set6 w' b v0 v1 v2 v3 v4 v5) :=
  (((((h.setCell (p := ⟨b, 0, none⟩) hb v0).setCell (p := ⟨b, 1, none⟩) hb v1).setCell (p := ⟨b, 2, none⟩) hb v2).setCell (p := ⟨b, 3, none⟩) hb v3).setCell (p := ⟨b, 4, none⟩) hb v4).setCell (p := ⟨b, 5, none⟩) hb v5
set_option maxRecDepth 100000 in
set_option maxHeartbeats 2000000 in
theorem fact_any (e a : Int) (v : V) (w : World) (R : Ending → World → Prop)
    (hR : ∀ w' b, Below w.heap.size w w' → w.heap.size ≤ b → Blk w' b [.int .i64 (-9223372036854775808), .int .i64 9223372036854775807] 58 → R (.returned (.agg #[.int .i64 e, .int .i64 a, .int .i64 v.kind, .int .i64 v.n, .string ⟨v.s.toArray⟩, .slice (some ⟨b, 0, none⟩) 1 1])) w') :
    Calls Try.prog 28 #[.int .i64 e, .int .i64 a, .agg #[.int .i64 v.kind, .int .i64 v.n, .string ⟨v.s.toArray⟩]] w R := by
  have HR := Lib.hid hR
  clear hR
  have hB1 := alloc_below w (.cells #[.int .i64 v.kind, .int .i64 v.n, .string ⟨v.s.toArray⟩] 47)
  have hb1 := Blk.new w [.int .i64 v.kind, .int .i64 v.n, .string ⟨v.s.toArray⟩] 47 rfl
  have hs1 : (w.alloc (.cells #[.int .i64 v.kind, .int .i64 v.n, .string ⟨v.s.toArray⟩] 47)).heap.size = w.heap.size + 1 := by simp
  have hB2 := alloc_below (w.alloc (.cells #[.int .i64 v.kind, .int .i64 v.n, .string ⟨v.s.toArray⟩] 47)) (.cells #[.int .i64 0, .int .i64 0, .int .i64 0, .int .i64 0, .string ⟨#[]⟩, .slice none 0 0] 49)
  have hb2 := Blk.new (w.alloc (.cells #[.int .i64 v.kind, .int .i64 v.n, .string ⟨v.s.toArray⟩] 47)) [.int .i64 0, .int .i64 0, .int .i64 0, .int .i64 0, .string ⟨#[]⟩, .slice none 0 0] 49 hs1.symm
  have hb12 := hb1.below hB2 hb1.lt
  have hB := hB1.trans (hB2.mono hB1.size)
  go_enter Try.func28, Try.ntmps28
  go_upto_region 1 with fail
  generalize (w.alloc (.cells #[.int .i64 v.kind, .int .i64 v.n, .string ⟨v.s.toArray⟩] 47)).alloc (.cells #[.int .i64 0, .int .i64 0, .int .i64 0, .int .i64 0, .string ⟨#[]⟩, .slice none 0 0] 49) = w2 at *
  have hl2 := hb2.lt
  have hz2 := hB.size
  have hS := Blk.set6 hb2 (.int .i64 e) (.int .i64 a) (.int .i64 v.kind) (.int .i64 v.n) (.string ⟨v.s.toArray⟩) (.slice (some ⟨w2.heap.size, 0, none⟩) 1 1)
  have hBS := below_set6 hB (Nat.le_succ _) (.int .i64 e) (.int .i64 a) (.int .i64 v.kind) (.int .i64 v.n) (.string ⟨v.s.toArray⟩) (.slice (some ⟨w2.heap.size, 0, none⟩) 1 1)
  have hzS : w2.heap.size = (set6 w2 (w.heap.size + 1) (.int .i64 e) (.int .i64 a) (.int .i64 v.kind) (.int .i64 v.n) (.string ⟨v.s.toArray⟩) (.slice (some ⟨w2.heap.size, 0, none⟩) 1 1)).heap.size := by simp [set6]
  have hB3 := alloc_below (set6 w2 (w.heap.size + 1) (.int .i64 e) (.int .i64 a) (.int .i64 v.kind) (.int .i64 v.n) (.string ⟨v.s.toArray⟩) (.slice (some ⟨w2.heap.size, 0, none⟩) 1 1)) (.cells #[.int .i64 (-9223372036854775808), .int .i64 9223372036854775807] 58)
  have hb3 := Blk.new (set6 w2 (w.heap.size + 1) (.int .i64 e) (.int .i64 a) (.int .i64 v.kind) (.int .i64 v.n) (.string ⟨v.s.toArray⟩) (.slice (some ⟨w2.heap.size, 0, none⟩) 1 1)) [.int .i64 (-9223372036854775808), .int .i64 9223372036854775807] 58 hzS
  have hr := HR.out _ w2.heap.size (hBS.trans (hB3.mono (by rw [← hzS]; exact hz2))) hz2 hb3
  have hrv := (hS.below hB3 (by rw [← hzS]; exact hl2)).cells.runVar (P := Try.prog) (t := 49) (fun _ => by kernel_rfl) (fun _ => by kernel_rfl)
  obtain ⟨y0, y1, y2⟩ := hb12.cells.c3
  obtain ⟨z0, z1, z2, z3, z4, z5⟩ := hb2.cells.f6
  have f0 := hb2.free 0
  have f1 := hb2.free 1
  have f2 := hb2.free 2
  have f3 := hb2.free 3
  have f4 := hb2.free 4
  have f5 := hb2.free 5
  have hne1 : ¬ w2.heap.size = w.heap.size + 1 := by omega
  have hne2 : ¬ w.heap.size + 1 = w2.heap.size := by omega
  simp only [Nat.zero_add] at z1 z2 z3 z4 z5 y1 y2
  unfold set6 at hr hrv
  have Hr := Lib.hid hr
  have Hrv := Lib.hid hrv
  clear hB1 hB2 hB3 hb1 hb2 hb3 hb12 hB hr hrv hs1 hS hBS hzS
  go_wp2_with fail
  exact ret_cell rfl rfl Hrv.out rfl Hr.out
end Go.Proofs.Ytkcpanaojehgiaa
