/- Texts that the proofs of FoldParts stand on, part 4. -/
import Derived.Lib.AppendZerosOnto
import Derived.RangeFuncNested
import Derived.RangeFuncBound
import Derived.RangeFuncCalls
import Derived.RangeFuncLeaves
import Derived.Shelf.Abstract
import Derived.Shelf.RegionOpen
import Derived.OwnWalkIn
import Derived.TacticsInMore
import Derived.LoopNIn
import Derived.LoopIn
import Derived.OrdersIn
import Derived.OrdersHeld
import Derived.Deep.RegionHeld3
import Derived.Scope
import Derived.Test.YtmconajkgjfplaaGreatKFoldParts3
/- What is told of a group's values: fold.tell. (Printed by fldw.py.) -/
section
set_option linter.unusedVariables false
set_option linter.unusedSimpArgs false
namespace Go.Proofs.YtmconajkgjfplaaGreat
open Go.RowKit
set_option linter.unusedVariables false
set_option linter.unusedSimpArgs false
def V.num (n : Int) : V := ⟨1, n, []⟩
def tellErr (op : Int) (l : List V) : Int := if op = 3 then (if (total l).isSome then 0 else 160) else 0
def tellV (op : Int) (many : Nat) (l : List V) : V :=
  if op = 1 then .num many else if op = 2 then .num (sortV l).length else if op = 3 then (if (total l).isSome then .num ((total l).getD 0) else ⟨0, 0, []⟩) else if op = 4 then leastV l else greatV l
theorem tell_err {op : Int} {l : List V} (h : op ≠ 3) : tellErr op l = 0 := if_neg h
set_option maxRecDepth 100000 in
set_option maxHeartbeats 4000000 in
theorem tell_count (lo hi : Nat) (op : Int) (many : Nat) (l : List V) (v : Value) (w : World) (hv : Row1 lo hi w v l) (hhi : hi ≤ w.heap.size) (hmany : many ≤ 1000000000000) (hlen : l.length ≤ 1000) (hop : op = 1) (R : Ending → World → Prop)
    (hR : ∀ w', Below w.heap.size w w' → R (.returned (.tuple #[(tellV op many l).agg, .int .i64 (tellErr op l)])) w') : Calls Tryz.prog 36 #[.int .i64 op, .int .i64 (many : Int), v] w R := by
  have HR := Lib.hid hR
  have Hv := Lib.hid hv
  obtain ⟨av, cv, rfl, -, -, -, -⟩ := hv.form
  clear hR hv
  go_enter Tryz.func36, Tryz.ntmps36
  go_upto_region 1 with fail
  have hB := alloc_below w (.cells #[.int .i64 0, .int .i64 0, .string ⟨#[]⟩] 44)
  have hb := Blk.new w [.int .i64 0, .int .i64 0, .string ⟨#[]⟩] 44 rfl
  generalize w.alloc (.cells #[.int .i64 0, .int .i64 0, .string ⟨#[]⟩] 44) = wa at *
  have f0 := hb.free 0
  have f1 := hb.free 1
  have f2 := hb.free 2
  obtain ⟨d0, d1, d2⟩ := hb.cells.c3
  simp only [Nat.zero_add] at d1 d2
  subst hop
  have hr := HR.out
  have e1 : tellV 1 many l = .num many := rfl
  have e2 : tellErr 1 l = 0 := rfl
  rw [e1, e2] at hr
  clear e1 e2
  go_wp2_with fail
  exact ret_cell_tmp rfl rfl ((((hb.set 0 (.int .i64 (V.num many).kind)).set 1 (.int .i64 (V.num many).n)).set 2 (.string ⟨(V.num many).s.toArray⟩)).cells.runVar (fun _ => by kernel_rfl) (fun _ => by kernel_rfl)) rfl rfl
    (hr _ (((hB.setCell (p := ⟨w.heap.size, 0, none⟩) (Nat.le_refl _) _).setCell (p := ⟨w.heap.size, 1, none⟩) (Nat.le_refl _) _).setCell (p := ⟨w.heap.size, 2, none⟩) (Nat.le_refl _) _))
set_option maxRecDepth 100000 in
set_option maxHeartbeats 4000000 in
theorem tell_distinct (lo hi : Nat) (op : Int) (many : Nat) (l : List V) (v : Value) (w : World) (hv : Row1 lo hi w v l) (hhi : hi ≤ w.heap.size) (hmany : many ≤ 1000000000000) (hlen : l.length ≤ 1000) (hop : op = 2) (R : Ending → World → Prop)
    (hR : ∀ w', Below w.heap.size w w' → R (.returned (.tuple #[(tellV op many l).agg, .int .i64 (tellErr op l)])) w') : Calls Tryz.prog 36 #[.int .i64 op, .int .i64 (many : Int), v] w R := by
  have HR := Lib.hid hR
  have Hv := Lib.hid hv
  obtain ⟨av, cv, rfl, -, -, -, -⟩ := hv.form
  clear hR hv
  go_enter Tryz.func36, Tryz.ntmps36
  go_upto_region 1 with fail
  have hB := alloc_below w (.cells #[.int .i64 0, .int .i64 0, .string ⟨#[]⟩] 44)
  have hb := Blk.new w [.int .i64 0, .int .i64 0, .string ⟨#[]⟩] 44 rfl
  generalize w.alloc (.cells #[.int .i64 0, .int .i64 0, .string ⟨#[]⟩] 44) = wa at *
  subst hop
  have HB := Lib.hid hB
  have Hb := Lib.hid hb
  clear hB hb
  go_wp2_with fail
  refine Sorted_any lo hi l _ wa (Sl.below Hv.out Row1.loc HB.out hhi) (by have := HB.out.size; omega) (by omega) _ (fun w2 v2 hB2 ho2 => ?_)
  obtain ⟨p2, c2, rfl⟩ := Own.slice ho2
  have hB := HB.out.trans (hB2.mono HB.out.size)
  have hb := Hb.out.below hB2 Hb.out.lt
  clear ho2 hB2
  have f0 := hb.free 0
  have f1 := hb.free 1
  have f2 := hb.free 2
  obtain ⟨d0, d1, d2⟩ := hb.cells.c3
  simp only [Nat.zero_add] at d1 d2
  have hr := HR.out
  have e1 : tellV 2 many l = .num (sortV l).length := rfl
  have e2 : tellErr 2 l = 0 := rfl
  rw [e1, e2] at hr
  clear e1 e2
  generalize hn : (sortV l).length = n at *
  clear hn
  go_wp2_with fail
  exact ret_cell_tmp rfl rfl ((((hb.set 0 (.int .i64 (V.num n).kind)).set 1 (.int .i64 (V.num n).n)).set 2 (.string ⟨(V.num n).s.toArray⟩)).cells.runVar (fun _ => by kernel_rfl) (fun _ => by kernel_rfl)) rfl rfl
    (hr _ (((hB.setCell (p := ⟨w.heap.size, 0, none⟩) (Nat.le_refl _) _).setCell (p := ⟨w.heap.size, 1, none⟩) (Nat.le_refl _) _).setCell (p := ⟨w.heap.size, 2, none⟩) (Nat.le_refl _) _))
set_option maxRecDepth 100000 in
set_option maxHeartbeats 4000000 in
theorem tell_sum (lo hi : Nat) (op : Int) (many : Nat) (l : List V) (v : Value) (w : World) (hv : Row1 lo hi w v l) (hhi : hi ≤ w.heap.size) (hmany : many ≤ 1000000000000) (hlen : l.length ≤ 1000) (hop : op = 3) (hok : ∀ x ∈ l, x.ok) (R : Ending → World → Prop)
    (hR : ∀ w', Below w.heap.size w w' → R (.returned (.tuple #[(tellV op many l).agg, .int .i64 (tellErr op l)])) w') : Calls Tryz.prog 36 #[.int .i64 op, .int .i64 (many : Int), v] w R := by
  have HR := Lib.hid hR
  have Hv := Lib.hid hv
  obtain ⟨av, cv, rfl, -, -, -, -⟩ := hv.form
  clear hR hv
  go_enter Tryz.func36, Tryz.ntmps36
  go_upto_region 1 with fail
  have hB := alloc_below w (.cells #[.int .i64 0, .int .i64 0, .string ⟨#[]⟩] 44)
  have hb := Blk.new w [.int .i64 0, .int .i64 0, .string ⟨#[]⟩] 44 rfl
  generalize w.alloc (.cells #[.int .i64 0, .int .i64 0, .string ⟨#[]⟩] 44) = wa at *
  subst hop
  have HB := Lib.hid hB
  have Hb := Lib.hid hb
  clear hB hb
  go_wp2_with fail
  refine Total_any lo hi _ l wa (Sl.below Hv.out Row1.loc HB.out hhi) (by have := HB.out.size; omega) hok (by omega) _ (fun w2 hB2 => ?_)
  have hB := HB.out.trans (hB2.mono HB.out.size)
  have hb := Hb.out.below hB2 Hb.out.lt
  clear hB2
  have f0 := hb.free 0
  have f1 := hb.free 1
  have f2 := hb.free 2
  obtain ⟨d0, d1, d2⟩ := hb.cells.c3
  simp only [Nat.zero_add] at d1 d2
  have hr := HR.out
  have e1 : tellV 3 many l = if (total l).isSome then .num ((total l).getD 0) else ⟨0, 0, []⟩ := rfl
  have e2 : tellErr 3 l = if (total l).isSome then 0 else 160 := rfl
  rw [e1, e2] at hr
  clear e1 e2
  generalize total l = t at *
  cases t with
  | none =>
    simp only [totalV, Option.isSome_none, Option.getD_none, Bool.false_eq_true, if_false] at hr ⊢
    go_wp2_with fail
    exact ret_cell_tmp rfl rfl ((((hb.set 0 (.int .i64 (⟨0, 0, []⟩ : V).kind)).set 1 (.int .i64 (⟨0, 0, []⟩ : V).n)).set 2 (.string ⟨(⟨0, 0, []⟩ : V).s.toArray⟩)).cells.runVar (fun _ => by kernel_rfl) (fun _ => by kernel_rfl)) rfl rfl
      (hr _ (((hB.setCell (p := ⟨w.heap.size, 0, none⟩) (Nat.le_refl _) _).setCell (p := ⟨w.heap.size, 1, none⟩) (Nat.le_refl _) _).setCell (p := ⟨w.heap.size, 2, none⟩) (Nat.le_refl _) _))
  | some n =>
    simp only [totalV, Option.isSome_some, Option.getD_some, if_true] at hr ⊢
    go_wp2_with fail
    exact ret_cell_tmp rfl rfl ((((hb.set 0 (.int .i64 (V.num n).kind)).set 1 (.int .i64 (V.num n).n)).set 2 (.string ⟨(V.num n).s.toArray⟩)).cells.runVar (fun _ => by kernel_rfl) (fun _ => by kernel_rfl)) rfl rfl
      (hr _ (((hB.setCell (p := ⟨w.heap.size, 0, none⟩) (Nat.le_refl _) _).setCell (p := ⟨w.heap.size, 1, none⟩) (Nat.le_refl _) _).setCell (p := ⟨w.heap.size, 2, none⟩) (Nat.le_refl _) _))
set_option maxRecDepth 100000 in
set_option maxHeartbeats 4000000 in
theorem tell_least (lo hi : Nat) (op : Int) (many : Nat) (l : List V) (v : Value) (w : World) (hv : Row1 lo hi w v l) (hhi : hi ≤ w.heap.size) (hmany : many ≤ 1000000000000) (hlen : l.length ≤ 1000) (hop : op = 4) (hne : 0 < l.length) (R : Ending → World → Prop)
    (hR : ∀ w', Below w.heap.size w w' → R (.returned (.tuple #[(tellV op many l).agg, .int .i64 (tellErr op l)])) w') : Calls Tryz.prog 36 #[.int .i64 op, .int .i64 (many : Int), v] w R := by
  have HR := Lib.hid hR
  have Hv := Lib.hid hv
  obtain ⟨av, cv, rfl, -, -, -, -⟩ := hv.form
  clear hR hv
  go_enter Tryz.func36, Tryz.ntmps36
  go_upto_region 1 with fail
  have hB := alloc_below w (.cells #[.int .i64 0, .int .i64 0, .string ⟨#[]⟩] 44)
  have hb := Blk.new w [.int .i64 0, .int .i64 0, .string ⟨#[]⟩] 44 rfl
  generalize w.alloc (.cells #[.int .i64 0, .int .i64 0, .string ⟨#[]⟩] 44) = wa at *
  subst hop
  have HB := Lib.hid hB
  have Hb := Lib.hid hb
  clear hB hb
  go_wp2_with fail
  refine MinFunc_any lo hi l _ wa (Sl.below Hv.out Row1.loc HB.out hhi) (by have := HB.out.size; omega) hne _ (fun w2 hB2 => ?_)
  have hB := HB.out.trans (hB2.mono HB.out.size)
  have hb := Hb.out.below hB2 Hb.out.lt
  clear hB2
  have f0 := hb.free 0
  have f1 := hb.free 1
  have f2 := hb.free 2
  obtain ⟨d0, d1, d2⟩ := hb.cells.c3
  simp only [Nat.zero_add] at d1 d2
  have hr := HR.out
  have e1 : tellV 4 many l = leastV l := rfl
  have e2 : tellErr 4 l = 0 := rfl
  rw [e1, e2] at hr
  clear e1 e2
  generalize leastV l = m at *
  go_wp2_with fail
  exact ret_cell_tmp rfl rfl ((((hb.set 0 (.int .i64 m.kind)).set 1 (.int .i64 m.n)).set 2 (.string ⟨m.s.toArray⟩)).cells.runVar (fun _ => by kernel_rfl) (fun _ => by kernel_rfl)) rfl rfl
    (hr _ (((hB.setCell (p := ⟨w.heap.size, 0, none⟩) (Nat.le_refl _) _).setCell (p := ⟨w.heap.size, 1, none⟩) (Nat.le_refl _) _).setCell (p := ⟨w.heap.size, 2, none⟩) (Nat.le_refl _) _))
set_option maxRecDepth 100000 in
set_option maxHeartbeats 4000000 in
theorem tell_great (lo hi : Nat) (op : Int) (many : Nat) (l : List V) (v : Value) (w : World) (hv : Row1 lo hi w v l) (hhi : hi ≤ w.heap.size) (hmany : many ≤ 1000000000000) (hlen : l.length ≤ 1000) (hop : op = 5) (hne : 0 < l.length) (R : Ending → World → Prop)
    (hR : ∀ w', Below w.heap.size w w' → R (.returned (.tuple #[(tellV op many l).agg, .int .i64 (tellErr op l)])) w') : Calls Tryz.prog 36 #[.int .i64 op, .int .i64 (many : Int), v] w R := by
  have HR := Lib.hid hR
  have Hv := Lib.hid hv
  obtain ⟨av, cv, rfl, -, -, -, -⟩ := hv.form
  clear hR hv
  go_enter Tryz.func36, Tryz.ntmps36
  go_upto_region 1 with fail
  have hB := alloc_below w (.cells #[.int .i64 0, .int .i64 0, .string ⟨#[]⟩] 44)
  have hb := Blk.new w [.int .i64 0, .int .i64 0, .string ⟨#[]⟩] 44 rfl
  generalize w.alloc (.cells #[.int .i64 0, .int .i64 0, .string ⟨#[]⟩] 44) = wa at *
  subst hop
  have HB := Lib.hid hB
  have Hb := Lib.hid hb
  clear hB hb
  go_wp2_with fail
  refine MaxFunc_any lo hi l _ wa (Sl.below Hv.out Row1.loc HB.out hhi) (by have := HB.out.size; omega) hne _ (fun w2 hB2 => ?_)
  have hB := HB.out.trans (hB2.mono HB.out.size)
  have hb := Hb.out.below hB2 Hb.out.lt
  clear hB2
  have f0 := hb.free 0
  have f1 := hb.free 1
  have f2 := hb.free 2
  obtain ⟨d0, d1, d2⟩ := hb.cells.c3
  simp only [Nat.zero_add] at d1 d2
  have hr := HR.out
  have e1 : tellV 5 many l = greatV l := rfl
  have e2 : tellErr 5 l = 0 := rfl
  rw [e1, e2] at hr
  clear e1 e2
  generalize greatV l = m at *
  go_wp2_with fail
  exact ret_cell_tmp rfl rfl ((((hb.set 0 (.int .i64 m.kind)).set 1 (.int .i64 m.n)).set 2 (.string ⟨m.s.toArray⟩)).cells.runVar (fun _ => by kernel_rfl) (fun _ => by kernel_rfl)) rfl rfl
    (hr _ (((hB.setCell (p := ⟨w.heap.size, 0, none⟩) (Nat.le_refl _) _).setCell (p := ⟨w.heap.size, 1, none⟩) (Nat.le_refl _) _).setCell (p := ⟨w.heap.size, 2, none⟩) (Nat.le_refl _) _))
theorem tell_any (lo hi : Nat) (op : Int) (many : Nat) (l : List V) (v : Value) (w : World) (hv : Row1 lo hi w v l) (hhi : hi ≤ w.heap.size) (hmany : many ≤ 1000000000000) (hlen : l.length ≤ 1000) (hop1 : 1 ≤ op) (hop5 : op ≤ 5) (hok : ∀ x ∈ l, x.ok) (hne : op = 1 ∨ 0 < l.length) (R : Ending → World → Prop)
    (hR : ∀ w', Below w.heap.size w w' → R (.returned (.tuple #[(tellV op many l).agg, .int .i64 (tellErr op l)])) w') : Calls Tryz.prog 36 #[.int .i64 op, .int .i64 (many : Int), v] w R := by
  rcases (show op = 1 ∨ op = 2 ∨ op = 3 ∨ op = 4 ∨ op = 5 by omega) with h | h | h | h | h
  · exact tell_count lo hi op many l v w hv hhi hmany hlen h R hR
  · exact tell_distinct lo hi op many l v w hv hhi hmany hlen h R hR
  · exact tell_sum lo hi op many l v w hv hhi hmany hlen h hok R hR
  · exact tell_least lo hi op many l v w hv hhi hmany hlen h (by omega) R hR
  · exact tell_great lo hi op many l v w hv hhi hmany hlen h (by omega) R hR
end Go.Proofs.YtmconajkgjfplaaGreat
end

/- slices.Grow of nothing; slices.Concat of two slices: of texts, of values, of rows' headers. (Printed by mea.py.) -/
section
set_option linter.unusedVariables false
set_option linter.unusedSimpArgs false
namespace Go.Proofs.YtmconajkgjfplaaGreat
open Go.RowKit
set_option linter.unusedVariables false
set_option linter.unusedSimpArgs false
attribute [local go_sem ↓] Go.wp_at_zero Go.wp_at_succ

/-- A new row of zero values, of which none is there yet. -/
theorem Own.zeros {α : Type} {enc : α → List Value} {e : TypeId} {size : Nat} {w : World} {z : Value} (hz : z.cells.size = size) {n G m : Nat} (hm : m = w.heap.size) (hG : n ≤ G) (hG2 : G ≤ maxLen) :
    Own enc e size w.heap.size (w.alloc (.cells (Builtin.zeroCells z.cells n ++ Builtin.zeroCells z.cells (G - n)) e)).drew (.slice (some ⟨m, 0, none⟩) 0 G) ([] : List α) := by
  subst hm
  refine ⟨by simp, .inr ⟨w.heap.size, G, _, rfl, Nat.le_refl _, heap_alloc_new w _, Nat.zero_le _, hG2, ?_, by simp⟩⟩
  simp only [Array.size_append, size_zeroCells, hz, ← Nat.add_mul]
  congr 1
  omega
/-- What has been counted of two. -/
def cnt2 (n1 n2 k : Nat) : Nat := if k = 0 then 0 else if k = 1 then n1 else n1 + n2
def pre2 {α : Type} (a b : List α) (k : Nat) : List α := if k = 0 then [] else if k = 1 then a else a ++ b
set_option maxRecDepth 100000 in
set_option maxHeartbeats 2000000 in
theorem GrowHdr_any (n : Nat) (hn : n ≤ 2000000000000) (w : World) (R : Ending → World → Prop) (hR : ∀ w' v', Below w.heap.size w w' → Own HD.enc 36 1 w.heap.size w' v' ([] : List HD) → R (.returned v') w') :
    Calls Tryz.prog 63 #[.slice none 0 0, .int .i64 n] w R := by
  have HR := Lib.hid hR
  clear hR
  have nn0 : (0 : Int) ≤ (n : Int) := by omega
  have nneg : ¬ (n : Int) < 0 := by omega
  obtain ⟨i0, hi, hz0, hz1, hz2⟩ := info_parts infoHD
  by_cases h0 : n = 0
  · have hr := HR.out w _ (Below.refl _ _) (Own.nil _ _ _ _ _)
    subst h0
    clear hi hz0 hz1 hz2
    go_enter Tryz.func63, Tryz.ntmps63
    go_wp2_with fail
    first | exact hr | exact fin hr rfl
  · have hpos : (0 : Int) < (n : Int) := by omega
    have w0 : IntKind.i64.wrap (n : Int) = (n : Int) := wrapOk (by omega) (by omega)
    have hg := Lib.run_append_grow_zeros (P := Tryz.prog) w 23 3 23 36 i0 _ .i64 .i64 Tryz.underlying23 Tryz.underlying3 hi hz0 none 0 0 [] (run_firstCells_none w.drew i0.size 0 0 0) n (by omega) (by rw [hz1]; decide) (by omega) (by omega) (by rw [hz2]; omega) (by rw [hz2]; exact growslice_fits (by omega) (by omega))
    rw [Nat.zero_add] at hg
    have hge := grownCap_ge w n 0 36
    have hcm : grownCap w n 0 36 ≤ maxLen := grownCap_le_maxLen w n 0 36 (by simp only [maxLen]; omega)
    have hcm2 : grownCap w n 0 36 ≤ 9223372036854775807 := by simpa [maxLen] using hcm
    generalize hG : grownCap w n 0 36 = gc at *
    have hB : ∀ x : Array Value, Below w.heap.size w (w.alloc (.cells x 36)).drew := fun x => (alloc_below w _).drew
    have hr := HR.out _ _ (hB _) (Own.zeros (enc := HD.enc) (e := 36) (size := 1) (w := w) (n := n) (G := gc) (m := w.heap.size) (z := .slice none 0 0) (by rfl) rfl hge hcm)
    have Hr := Lib.hid hr
    have Hg := Lib.hid hg
    have gg0 : (0 : Int) ≤ (gc : Int) := by omega
    clear hg hr hcm hB hi hz0 hz1 hz2 HR
    go_enter Tryz.func63, Tryz.ntmps63
    go_wp2_with (at_builtin; refine AtApp.of ?_)
    refine AtApp.go Hg.out rfl rfl rfl rfl ?_
    have hr := Hr.out
    go_wp2_with fail
    first | exact hr | exact fin hr rfl
set_option maxRecDepth 100000 in
set_option maxHeartbeats 4000000 in
theorem ConcatHdr_any (lo hi l2 h2 b : Nat) (xs ys : List HD) (vx vy : Value) (w : World) (hx : Sl (flat HD.enc) 1 lo hi w vx xs) (hhi : hi ≤ w.heap.size) (hy : Sl (flat HD.enc) 1 l2 h2 w vy ys) (hh2 : h2 ≤ w.heap.size) (hb : CellsAt w b 0 [vx, vy]) (hbw : b < w.heap.size) (hl1 : xs.length ≤ 1000000000000) (hl2 : ys.length ≤ 1000000000000) (R : Ending → World → Prop)
    (hR : ∀ w' v', Below w.heap.size w w' → Own HD.enc 36 1 w.heap.size w' v' (xs ++ ys) → R (.returned v') w') : Calls Tryz.prog 33 #[.slice (some ⟨b, 0, none⟩) 2 2] w R := by
  have HR := Lib.hid hR
  have Hx := Lib.hid hx
  have Hy := Lib.hid hy
  have Hb := Lib.hid hb
  obtain ⟨ax, cx, rfl, -, -, -, -⟩ := hx.form
  obtain ⟨ay, cy, rfl, -, -, -, -⟩ := hy.form
  clear hR hx hy hb
  go_enter Tryz.func33, Tryz.ntmps33
  go_wp2_with fail
  go_loopw [3, 11] (fun t3 t11 wr => ∃ k : Nat, k ≤ 2 ∧ t11 = .int .i64 k ∧ t3 = .int .i64 (cnt2 xs.length ys.length k : Nat) ∧ wr = w) (fun _ t11 _ => 2 - (intOf t11).toNat)
  case atStart => exact ⟨0, by omega, rfl, rfl, rfl⟩
  case round =>
    obtain ⟨k, hk, rfl, rfl, rfl⟩ := hrel
    have kk0 : (0 : Int) ≤ (k : Int) := by omega
    obtain ⟨z0, z1⟩ := Hb.out.c2
    simp only [Nat.zero_add] at z1
    rcases (show k = 0 ∨ k = 1 ∨ k = 2 by omega) with rfl | rfl | rfl
    · simp only [cnt2, if_true] at *
      go_wp2_with fail
      go_roundw
      case rel => exact ⟨1, by omega, by go_num, by simp [cnt2], trivial⟩
      case measure => simp [intOf]
    · simp only [cnt2] at *
      have w0 : IntKind.i64.wrap ((xs.length : Int) + (ys.length : Int)) = (xs.length : Int) + (ys.length : Int) := wrapOk (by omega) (by omega)
      have nneg : ¬ ((xs.length : Int) + (ys.length : Int)) < 0 := by omega
      go_wp2_with fail
      go_roundw
      case rel => exact ⟨2, by omega, by go_num, by simp [cnt2], trivial⟩
      case measure => simp [intOf]
    · obtain ⟨w0, ew0⟩ : ∃ x, x = wr := ⟨_, rfl⟩
      subst ew0
      clear z0 z1
      have hcn : cnt2 xs.length ys.length 2 = xs.length + ys.length := by simp [cnt2]
      rw [hcn]
      clear hcn
      go_wp2_with fail
      refine GrowHdr_any (xs.length + ys.length) (by omega) _ _ (fun wg vg hBg hog => ?_)
      have Hog := Lib.hid hog
      have HBg := Lib.hid hBg
      have hzg := hBg.size
      clear hog hBg
      go_wp2_with fail
      go_loopw [6, 27] (fun t6 t27 wr => ∃ k : Nat, k ≤ 2 ∧ t27 = .int .i64 k ∧ Own HD.enc 36 1 w0.heap.size wr t6 (pre2 xs ys k) ∧ Below w0.heap.size w0 wr) (fun _ t27 _ => 2 - (intOf t27).toNat)
      case atStart => exact ⟨0, by omega, rfl, Hog.out, HBg.out⟩
      case round =>
        obtain ⟨k, hk, rfl, ho, hB⟩ := hrel
        obtain ⟨wo, ewo⟩ : ∃ x, x = wr := ⟨_, rfl⟩
        subst ewo
        have Ho := Lib.hid ho
        have HB := Lib.hid hB
        have hzo := hB.size
        have kk0 : (0 : Int) ≤ (k : Int) := by omega
        obtain ⟨po, co, hpo⟩ := Own.slice ho
        obtain ⟨z0, z1⟩ := (Hb.out.agree (.below hB (Nat.le_refl _)) (Nat.zero_le _) hbw).c2
        simp only [Nat.zero_add] at z1
        obtain ⟨i0, hi, hz0, hz1, hz2⟩ := info_parts infoHD
        clear ho hB
        rcases (show k = 0 ∨ k = 1 ∨ k = 2 by omega) with rfl | rfl | rfl
        · obtain ⟨v3, w3, hr3, ho3, ha3⟩ := Own.app Ho.out 23 23 23 i0 _ 24 Tryz.underlying23 hi hz0 hz1 hz2 rfl (Src.ofSl (Sl.below Hx.out (flat_loc _) HB.out hhi) (fun _ => rfl) HD.one Tryz.underlying23) (by simp only [pre2, if_true, List.length_nil]; omega) (by omega) (by omega)
          have HO3 : Hid (Own HD.enc 36 1 w0.heap.size w3 v3 (pre2 xs ys 1)) := Lib.hid (by
            have := ho3
            simpa [pre2] using this)
          have HB3 := Lib.hid (HB.out.trans (ha3.below (B := w0.heap.size) (by omega) (fun q e => (Own.lt Ho.out q e).1)))
          clear ho3 ha3 hi hz0 hz1 hz2
          subst hpo
          go_wp2_with (at_builtin; refine AtApp.of ?_)
          refine AtApp.go hr3 rfl rfl rfl rfl ?_
          go_wp2_with fail
          go_roundw
          case rel => exact ⟨1, by omega, by go_num, HO3.out, HB3.out⟩
          case measure => simp [intOf]
        · obtain ⟨v3, w3, hr3, ho3, ha3⟩ := Own.app Ho.out 23 23 23 i0 _ 24 Tryz.underlying23 hi hz0 hz1 hz2 rfl (Src.ofSl (Sl.below Hy.out (flat_loc _) HB.out hh2) (fun _ => rfl) HD.one Tryz.underlying23) (by show (xs.length + ys.length) * _ ≤ _; omega) (by omega) (by omega)
          have HO3 : Hid (Own HD.enc 36 1 w0.heap.size w3 v3 (pre2 xs ys 2)) := Lib.hid ho3
          have HB3 := Lib.hid (HB.out.trans (ha3.below (B := w0.heap.size) (by omega) (fun q e => (Own.lt Ho.out q e).1)))
          clear ho3 ha3 hi hz0 hz1 hz2
          subst hpo
          go_wp2_with (at_builtin; refine AtApp.of ?_)
          refine AtApp.go hr3 rfl rfl rfl rfl ?_
          go_wp2_with fail
          go_roundw
          case rel => exact ⟨2, by omega, by go_num, HO3.out, HB3.out⟩
          case measure => simp [intOf]
        · have hr := HR.out wo _ HB.out Ho.out
          clear hi hz0 hz1 hz2
          subst hpo
          go_wp2_with fail
          first | exact hr | exact fin hr rfl
end Go.Proofs.YtmconajkgjfplaaGreat
end

/- Columns that two relations have, and those that one alone has; rows sorted by columns. (Printed by meb.py.) -/
section
set_option linter.unusedVariables false
set_option linter.unusedSimpArgs false
namespace Go.Proofs.YtmconajkgjfplaaGreat
open Go.RowKit
set_option linter.unusedVariables false
set_option linter.unusedSimpArgs false
attribute [local go_sem ↓] Go.wp_at_zero Go.wp_at_succ

theorem appT1 {w : World} {lo : Nat} {v : Value} {xs : List S} (h : OwnT lo w v xs) (x : S) {n : Nat} (hn : n = w.heap.size) (hb : xs.length ≤ 4000000000000) (hlo : lo ≤ w.heap.size) :
    ∃ v' w', (Builtin.append_ #[22, 22] 22 #[v, .slice (some ⟨n, 0, none⟩) 1 1]).run Tryz.prog (w.alloc (.cells #[.string ⟨x.toArray⟩] 9)) = .ok v' w' ∧ OwnT lo w' v' (xs ++ [x]) ∧ Appended w v w' v' := by
  subst hn
  have hB : Below w.heap.size w (w.alloc (.cells (strE x).toArray 9)) := (Below.refl _ _).alloc (Nat.le_refl _) _
  obtain ⟨i0, hi, hz0, hz1, hz2⟩ := info_parts infoT
  have hc := CellsAt.newAt w (strE x) 9 rfl
  have hs : Src Tryz.prog 1 22 (.slice (some ⟨w.heap.size, 0, none⟩) 1 1) [x].length ([x].flatMap strE) (w.alloc (.cells (strE x).toArray 9)) :=
    Src.ofSlice _ Tryz.underlying22 _ _ _ _ (by simp [strE]) (fun j u hu => by rw [Addr.add_lit]; exact hc j u (by simpa using hu)) (fun u hu => by
      rw [List.flatMap_cons, List.flatMap_nil, List.append_nil] at hu
      exact oneS x u hu)
  obtain ⟨v', w', hr, ho, ha⟩ := (Own.kept h hB).app _ _ _ i0 _ 16 Tryz.underlying22 hi hz0 hz1 hz2 rfl hs (by simp only [List.length_cons, List.length_nil]; omega) (by omega) (Nat.le_trans hlo hB.size)
  exact ⟨v', w', hr, ho, (Appended.step v hB).trans ha⟩
set_option maxRecDepth 100000 in
set_option maxHeartbeats 2000000 in
theorem Or1_any (lo hi lo2 hi2 b : Nat) (x : List V) (at' : List Int) (vx va : Value) (w : World) (hx : Row1 lo hi w vx x) (hhi : hi ≤ w.heap.size) (ha : Ints lo2 hi2 w va at') (hhi2 : hi2 ≤ w.heap.size) (hb : Blk w b [va] 58) (hok : AtOk x.length at') (hlen : at'.length ≤ 1000000000000) (R : Ending → World → Prop)
    (hR : ∀ w' v', Below w.heap.size w w' → OwnV w.heap.size w' v' (pickL x at') → R (.returned (.tuple #[v', .bool true])) w') : Calls Tryz.prog 32 #[vx, .pointer (some ⟨b, 0, none⟩)] w R := by
  have HR := Lib.hid hR
  have Hx := Lib.hid hx
  have Ha := Lib.hid ha
  obtain ⟨ax, cx, rfl, -, -, -, -⟩ := hx.form
  obtain ⟨aa, ca, rfl, -, -, -, -⟩ := ha.form
  have c0 := hb.cells.c1
  clear hR hx ha hb
  go_enter Tryz.func32, Tryz.ntmps32
  go_wp2_with fail
  refine pick_any lo hi lo2 hi2 x at' _ _ w Hx.out hhi Ha.out hhi2 hok hlen _ (fun w1 v1 hB1 ho1 => ?_)
  have hr := HR.out w1 v1 hB1 ho1
  obtain ⟨p1, c1, rfl⟩ := Own.slice ho1
  clear hB1 ho1
  go_wp2_with fail
  first | exact hr | exact fin hr rfl
end Go.Proofs.YtmconajkgjfplaaGreat
end

/- How two rows' keys stand, as the closure of fold.groups says it. (Printed by fldb.py.) -/
section
set_option linter.unusedVariables false
set_option linter.unusedSimpArgs false
namespace Go.Proofs.YtmconajkgjfplaaGreat
open Go.RowKit Go.Sort Go.Shelf
set_option linter.unusedVariables false
set_option linter.unusedSimpArgs false
set_option maxRecDepth 100000 in
set_option maxHeartbeats 2000000 in
theorem cmpKey_any (lo hi lo2 hi2 la ha bt : Nat) (x y : List V) (at' : List Int) (vx vy va : Value) (w : World) (hx : Row1 lo hi w vx x) (hhi : hi ≤ w.heap.size) (hy : Row1 lo2 hi2 w vy y) (hhi2 : hi2 ≤ w.heap.size) (hb : Blk w bt [va] 58) (hat : Ints la ha w va at') (hha : ha ≤ w.heap.size) (hokx : AtOk x.length at') (hoky : AtOk y.length at') (hlen : at'.length ≤ 1000000000000) (R : Ending → World → Prop)
    (hR : ∀ w', Gw w w' → R (.returned (.int .i64 (cmpR (pickL x at') (pickL y at')))) w') : Calls Tryz.prog 53 #[vx, vy, .pointer (some ⟨bt, 0, none⟩)] w R := by
  have HR := Lib.hid hR
  have Hx := Lib.hid hx
  have Hy := Lib.hid hy
  have Hat := Lib.hid hat
  have Hokx := Lib.hid hokx
  have Hoky := Lib.hid hoky
  have Hb := Lib.hid hb
  obtain ⟨ax, cx, rfl, -, -, -, -⟩ := hx.form
  obtain ⟨ay, cy, rfl, -, -, -, -⟩ := hy.form
  obtain ⟨aa, ca, rfl, -, -, -, -⟩ := hat.form
  have c0 := hb.cells.c1
  clear hR hx hy hat hokx hoky hb
  go_enter Tryz.func53, Tryz.ntmps53
  go_wp2_with fail
  refine wp_region_held_drew (S := fun w' => Gw w w') (by kernel_rfl) ((Gw.refl _).drew) (fun hHeld => ?_)
  refine wpAnyH_take (i := 0) (v := .slice ax x.length cx) rfl (by kernel_rfl) (by kernel_rfl) (by kernel_rfl) (fun _ _ _ h => h) (Or.inl ⟨by rfl, ?_⟩) hHeld ?_
  · intro w' hSw; go_simp
  try simp only [Act.put, List.getElem_toArray, List.getElem_cons_succ, List.getElem_cons_zero, List.setIfInBounds_toArray, List.set_cons_zero, List.set_cons_succ]
  refine wpAnyH_take (i := 1) (v := .slice aa at'.length ca) rfl (by kernel_rfl) (by kernel_rfl) (by kernel_rfl) (fun _ _ _ h => h) (Or.inl ⟨by rfl, ?_⟩) hHeld ?_
  · intro w' hSw; have kx := ((Hb.out.below hSw.below (by have := Hb.out.lt; omega)).cells).c1; go_simp
  try simp only [Act.put, List.getElem_toArray, List.getElem_cons_succ, List.getElem_cons_zero, List.setIfInBounds_toArray, List.set_cons_zero, List.set_cons_succ]
  refine wpAnyH_take (i := 3) (v := .slice ay y.length cy) rfl (by kernel_rfl) (by kernel_rfl) (by kernel_rfl) (fun _ _ _ h => h) (Or.inl ⟨by rfl, ?_⟩) hHeld ?_
  · intro w' hSw; go_simp
  try simp only [Act.put, List.getElem_toArray, List.getElem_cons_succ, List.getElem_cons_zero, List.setIfInBounds_toArray, List.set_cons_zero, List.set_cons_succ]
  refine wpAnyH_take (i := 4) (v := .slice aa at'.length ca) rfl (by kernel_rfl) (by kernel_rfl) (by kernel_rfl) (fun _ _ _ h => h) (Or.inl ⟨by rfl, ?_⟩) hHeld ?_
  · intro w' hSw; have kx := ((Hb.out.below hSw.below (by have := Hb.out.lt; omega)).cells).c1; go_simp
  try simp only [Act.put, List.getElem_toArray, List.getElem_cons_succ, List.getElem_cons_zero, List.setIfInBounds_toArray, List.set_cons_zero, List.set_cons_succ]
  refine wpAnyH_ready (rs := [2]) (by kernel_rfl) (by simp) ?_
  refine allCall (f := 54) (args := #[.slice ax x.length cx, .slice aa at'.length ca]) rfl (by kernel_rfl) (by kernel_rfl) ?_ AllReadyH.nil
  refine key_any lo hi la ha x at' _ _ w.drew (Sl.below Hx.out Row1.loc ((Below.refl _ _).drew) hhi) hhi (Sl.below Hat.out Ints.loc ((Below.refl _ _).drew) hha) hha Hokx.out hlen _ (fun w1 v1 hg1 ho1 => ?_)
  obtain ⟨p1, c1, rfl⟩ := Own.slice ho1
  have hG1 : Gw w w1 := ((Gw.refl _).drew).trans hg1
  have HG1 := Lib.hid hG1
  have HO1 : Hid (OwnV w.heap.size w1 _ _) := Lib.hid ho1
  refine ⟨_, rfl, hG1, ?_⟩
  clear hHeld
  have hHeld := hG1
  clear ho1 hg1 hG1
  try simp only [Act.put, List.getElem_toArray, List.getElem_cons_succ, List.getElem_cons_zero, List.setIfInBounds_toArray, List.set_cons_zero, List.set_cons_succ]
  refine wpAnyH_ready (rs := [5]) (by kernel_rfl) (by simp) ?_
  refine allCall (f := 54) (args := #[.slice ay y.length cy, .slice aa at'.length ca]) rfl (by kernel_rfl) (by kernel_rfl) ?_ AllReadyH.nil
  refine key_any lo2 hi2 la ha y at' _ _ w1 (Sl.below Hy.out Row1.loc HG1.out.below hhi2) (by have := HG1.out.size; omega) (Sl.below Hat.out Ints.loc HG1.out.below hha) (by have := HG1.out.size; omega) Hoky.out hlen _ (fun w2 v2 hg2 ho2 => ?_)
  obtain ⟨p2, c2, rfl⟩ := Own.slice ho2
  have hG2 : Gw w w2 := HG1.out.trans hg2
  have HG2 := Lib.hid hG2
  have HG12 := Lib.hid hg2
  have HO2 : Hid (OwnV w1.heap.size w2 _ _) := Lib.hid ho2
  refine ⟨_, rfl, hG2, ?_⟩
  clear hHeld
  have hHeld := hG2
  clear ho2 hg2 hG2
  try simp only [Act.put, List.getElem_toArray, List.getElem_cons_succ, List.getElem_cons_zero, List.setIfInBounds_toArray, List.set_cons_zero, List.set_cons_succ]
  refine wpAnyH_ready (rs := [6]) (by kernel_rfl) (by simp) ?_
  refine allCall (f := 9) (args := #[.slice p1 (pickL x at').length c1, .slice p2 (pickL y at').length c2]) rfl (by kernel_rfl) (by kernel_rfl) ?_ AllReadyH.nil
  refine rowsCompare_any _ _ _ _ (pickL x at') (pickL y at') _ _ w2 (OwnV.sl (Own.kept HO1.out HG12.out.below)) (OwnV.sl HO2.out) (Nat.le_refl _) (Nat.le_refl _) _ (fun w3 hg3 => ?_)
  have hG3 : Gw w w3 := HG2.out.trans hg3
  have HG3 := Lib.hid hG3
  refine ⟨_, rfl, hG3, ?_⟩
  clear hHeld
  have hHeld := hG3
  clear hg3 hG3
  try simp only [Act.put, List.getElem_toArray, List.getElem_cons_succ, List.getElem_cons_zero, List.setIfInBounds_toArray, List.set_cons_zero, List.set_cons_succ]
  refine wpAnyH_take (i := 7) (v := .int .i64 (cmpR (pickL x at') (pickL y at'))) rfl (by kernel_rfl) (by kernel_rfl) (by kernel_rfl) (fun _ _ _ h => h) (Or.inl ⟨by rfl, ?_⟩) hHeld ?_
  · intro w' hSw; go_simp
  try simp only [Act.put, List.getElem_toArray, List.getElem_cons_succ, List.getElem_cons_zero, List.setIfInBounds_toArray, List.set_cons_zero, List.set_cons_succ]
  refine wpAnyH_done (by kernel_rfl) ?_ _
  clear hHeld
  have hr := HR.out w3 HG3.out
  go_wp2_with fail
  first | exact hr | exact fin hr rfl
end Go.Proofs.YtmconajkgjfplaaGreat
end

/- The program's Select: what it asks may keep a state of its own. (Printed by rowse.py.) -/
section
set_option linter.unusedVariables false
set_option linter.unusedSimpArgs false
namespace Go.Proofs.YtmconajkgjfplaaGreat
open Go.RowKit
set_option linter.unusedVariables false
set_option linter.unusedSimpArgs false

theorem OwnR.keptOnly {A : Nat → Prop} {lo : Nat} {w w' : World} {v : Value} {hs : List Value} {xs : List (List V)} (h : OwnR lo w v hs xs) (hO : Only A w w') (hA : ∀ b, A b → b < lo) : OwnR lo w' v hs xs :=
  ⟨Own.same h.own (fun g e => hO.block g (Own.lt h.own g e).2 (fun a => by have := hA g a; have := (Own.lt h.own g e).1; omega)), h.len,
    fun i hi h2 => Own.same (h.row i hi h2) (fun g e => hO.block g (Own.lt (h.row i hi h2) g e).2 (fun a => by have := hA g a; have := (Own.lt (h.row i hi h2) g e).1; omega)), h.apart⟩
theorem Only.into2 {A A' : Nat → Prop} {w W W1 : World} (h1 : Only A w W) (h2 : Only A' W W1) (hA : ∀ b, b < w.heap.size → A' b → A b) : Only A w W1 :=
  ⟨h2.os.trans h1.os, h2.tape.trans h1.tape, h2.output.trans h1.output, Nat.le_trans h1.size h2.size, fun k hk hn => (h2.block k (Nat.lt_of_lt_of_le hk h1.size) (fun e => hn (hA k hk e))).trans (h1.block k hk hn)⟩
end Go.Proofs.YtmconajkgjfplaaGreat
end

/- The program's Select. (Printed by rowsl.py.) -/
section
set_option linter.unusedVariables false
set_option linter.unusedSimpArgs false
namespace Go.Proofs.YtmconajkgjfplaaGreat
open Go.RowKit
set_option linter.unusedVariables false
set_option linter.unusedSimpArgs false

end Go.Proofs.YtmconajkgjfplaaGreat
end

/- What is too great for the law; the document's relation of the program's. -/
section
set_option linter.unusedVariables false
set_option linter.unusedSimpArgs false
namespace Go.Proofs.YtmconajkgjfplaaGreat
open Go.RowKit
set_option linter.unusedVariables false
set_option linter.unusedSimpArgs false

end Go.Proofs.YtmconajkgjfplaaGreat
end

/- A relation's own copy. -/
section
set_option linter.unusedVariables false
set_option linter.unusedSimpArgs false
namespace Go.Proofs.YtmconajkgjfplaaGreat
open Go.RowKit
set_option linter.unusedVariables false
set_option linter.unusedSimpArgs false

theorem Own.apartT {α β : Type} {enc : α → List Value} {enc' : β → List Value} {e e' : TypeId} {size size' lo lo' : Nat} {w : World} {v v' : Value} {xs : List α} {ys : List β} (h : Own enc e size lo w v xs) (h' : Own enc' e' size' lo' w v' ys) (ht : e ≠ e') {k : Nat} (hk : v.ownBlock = some k) : v'.ownBlock ≠ some k := by
  rcases h.2 with ⟨rfl, -⟩ | ⟨g, cap, cur, rfl, -, hg, -⟩
  · cases hk
  · have e1 : g = k := by simpa [Value.ownBlock] using hk
    subst e1
    exact Own.ne_blk h' (cs := cur.toList) (by unfold Blk; simpa using hg) ht
end Go.Proofs.YtmconajkgjfplaaGreat
end

/- The document's Same on relations that are alike. (Printed by rown.py.) -/
section
set_option linter.unusedVariables false
set_option linter.unusedSimpArgs false
namespace Go.Proofs.YtmconajkgjfplaaGreat
open Go.RowKit
set_option linter.unusedVariables false
set_option linter.unusedSimpArgs false

theorem cmpR_self (x : List V) : cmpR x x = 0 := by rw [cmpR_cmp.self]
set_option maxRecDepth 100000 in
set_option maxHeartbeats 4000000 in
theorem Same_any (lo hi lo2 hi2 lc hc lc2 hc2 : Nat) (cols : List S) (l : List (List V)) (ca cb la lb : Value) (w : World) (hca : Strs lc hc w ca cols) (hcb : Strs lc2 hc2 w cb cols) (hla : Rws lo hi w la l) (hlb : Rws lo2 hi2 w lb l) (h1 : hc ≤ w.heap.size) (h2 : hc2 ≤ w.heap.size) (h3 : hi ≤ w.heap.size) (h4 : hi2 ≤ w.heap.size) (hrs : ∀ x ∈ l, ∀ a ∈ x, a.s.length ≤ 9223372036854775807) (R : Ending → World → Prop)
    (hR : ∀ w', Below w.heap.size w w' → R (.returned (.bool true)) w') : Calls Tryz.prog 18 #[.agg #[ca, la], .agg #[cb, lb]] w R := by
  have HR := Lib.hid hR
  have HCa := Lib.hid hca
  have HCb := Lib.hid hcb
  have HLa := Lib.hid hla
  have HLb := Lib.hid hlb
  have Hrs := Lib.hid hrs
  obtain ⟨aca, cca, rfl, -, -, -, -⟩ := hca.form
  obtain ⟨acb, ccb, rfl, -, -, -, -⟩ := hcb.form
  obtain ⟨ala, cla, rfl, -, -, -, -⟩ := hla.form
  obtain ⟨alb, clb, rfl, -, -, -, -⟩ := hlb.form
  have hql := hca.len
  have hml := hla.len
  clear hR hca hcb hla hlb hrs
  obtain ⟨q, hq⟩ : ∃ q, q = cols.length := ⟨_, rfl⟩
  obtain ⟨m, hm⟩ : ∃ m, m = l.length := ⟨_, rfl⟩
  rw [← hq, ← hm]
  rw [← hq] at hql
  rw [← hm] at hml
  have Hq := Lib.hid hq
  have Hm := Lib.hid hm
  clear hq hm
  go_enter Tryz.func18, Tryz.ntmps18
  go_upto_region 1 with fail
  obtain ⟨w0, hw0⟩ : ∃ w0, w0 = (w.alloc (.cells #[.slice aca q cca, .slice ala m cla] 50)).alloc (.cells #[.slice acb q ccb, .slice alb m clb] 50) := ⟨_, rfl⟩
  have s1 : (w.alloc (.cells #[.slice aca q cca, .slice ala m cla] 50)).heap.size = w.heap.size + 1 := Array.size_push _
  have hB0 : Below w.heap.size w w0 := by
    rw [hw0]
    exact (alloc_below w _).alloc (by rw [s1]; omega) _
  have hz0 : w.heap.size + 1 < w0.heap.size := by
    rw [hw0]
    show _ < (Array.push _ _).size
    rw [Array.size_push, s1]; omega
  have hb1 : Blk w0 w.heap.size [.slice aca q cca, .slice ala m cla] 50 := by
    rw [hw0]
    exact (Blk.new w [.slice aca q cca, .slice ala m cla] _ rfl).alloc _
  have hb2 : Blk w0 (w.heap.size + 1) [.slice acb q ccb, .slice alb m clb] 50 := by
    rw [hw0]
    exact Blk.new _ [.slice acb q ccb, .slice alb m clb] _ s1.symm
  rw [← hw0]
  clear hw0 s1
  have HB0 := Lib.hid hB0
  have HA := Lib.hid hb1
  have HBb := Lib.hid hb2
  obtain ⟨d0, d1⟩ := hb1.cells.c2
  simp only [Nat.zero_add] at d1
  obtain ⟨e0, e1⟩ := hb2.cells.c2
  simp only [Nat.zero_add] at e1
  clear hB0 hb1 hb2
  go_wp2_with fail
  go_loopw [5] (fun t5 wr => ∃ k : Nat, k ≤ q ∧ t5 = .int .i64 k ∧ Below w0.heap.size w0 wr) (fun t5 _ => q - (intOf t5).toNat)
  case atStart => exact ⟨0, Nat.zero_le _, rfl, Below.refl _ _⟩
  case round =>
    obtain ⟨k, hk, rfl, hB⟩ := hrel
    obtain ⟨wo, ewo⟩ : ∃ x, x = wr := ⟨_, rfl⟩
    subst ewo
    have hz := hB.size
    have HB := Lib.hid hB
    have HBw := Lib.hid (HB0.out.trans (hB.mono (by omega)))
    have kk0 : (0 : Int) ≤ (k : Int) := by omega
    have Hb1 := Lib.hid (HA.out.below hB (by omega))
    have Hb2 := Lib.hid (HBb.out.below hB hz0)
    clear hB d0 d1 e0 e1
    obtain ⟨d0, d1⟩ := Hb1.out.cells.c2
    simp only [Nat.zero_add] at d1
    obtain ⟨e0, e1⟩ := Hb2.out.cells.c2
    simp only [Nat.zero_add] at e1
    by_cases hlt : k < q
    · have hltc : k < cols.length := by rw [← Hq.out]; exact hlt
      obtain ⟨ao', cap', e', -, -, -, hc⟩ := (Sl.below HCa.out Strs.loc HBw.out h1).form
      injection e' with e1' e2' e3'
      subst e1' e3'
      obtain ⟨bx, ox, rfl, hb1, hb2, hcc⟩ := hc k hltc
      obtain ⟨cs, _, hcs, rfl⟩ := hcc k hltc
      have gx := hcs.c1
      rw [Nat.mul_one] at gx
      clear hc hcc hcs
      obtain ⟨ao', cap', e', -, -, -, hc⟩ := (Sl.below HCb.out Strs.loc HBw.out h2).form
      injection e' with e1' e2' e3'
      subst e1' e3'
      obtain ⟨by_, oy, rfl, hb3, hb4, hcc⟩ := hc k hltc
      obtain ⟨cs, _, hcs, rfl⟩ := hcc k hltc
      have gy := hcs.c1
      rw [Nat.mul_one] at gy
      clear hc hcc hcs
      generalize cols[k] = c at *
      have kkl : (k : Int) < (q : Int) := by omega
      go_upto_region 6 with fail
      refine wp_region_held_drew (S := fun w' => w' = wo.drew) (by kernel_rfl) rfl (fun hHeld => ?_)
      refine wpAnyH_take (i := 0) (v := .pointer (some ⟨w.heap.size, 0, none⟩)) rfl (by kernel_rfl) (by kernel_rfl) (by kernel_rfl) (fun _ _ _ h => h) (Or.inl ⟨by rfl, ?_⟩) hHeld ?_
      · intro w' hSw; subst hSw; go_simp <;> omega
      try simp only [Act.put, List.getElem_toArray, List.getElem_cons_succ, List.getElem_cons_zero, List.setIfInBounds_toArray, List.set_cons_zero, List.set_cons_succ]
      refine wpAnyH_take (i := 1) (v := .slice (some ⟨bx, ox, none⟩) q cca) rfl (by kernel_rfl) (by kernel_rfl) (by kernel_rfl) (fun _ _ _ h => h) (Or.inl ⟨by rfl, ?_⟩) hHeld ?_
      · intro w' hSw; subst hSw; have kx := d0; go_simp
      try simp only [Act.put, List.getElem_toArray, List.getElem_cons_succ, List.getElem_cons_zero, List.setIfInBounds_toArray, List.set_cons_zero, List.set_cons_succ]
      refine wpAnyH_take (i := 2) (v := .int .i64 ((k : Int))) rfl (by kernel_rfl) (by kernel_rfl) (by kernel_rfl) (fun _ _ _ h => h) (Or.inl ⟨by rfl, ?_⟩) hHeld ?_
      · intro w' hSw; subst hSw; go_simp <;> omega
      try simp only [Act.put, List.getElem_toArray, List.getElem_cons_succ, List.getElem_cons_zero, List.setIfInBounds_toArray, List.set_cons_zero, List.set_cons_succ]
      refine wpAnyH_take (i := 3) (v := .pointer (some ⟨bx, ox + k, none⟩)) rfl (by kernel_rfl) (by kernel_rfl) (by kernel_rfl) (fun _ _ _ h => h) (Or.inl ⟨by rfl, ?_⟩) hHeld ?_
      · intro w' hSw; subst hSw; go_simp <;> omega
      try simp only [Act.put, List.getElem_toArray, List.getElem_cons_succ, List.getElem_cons_zero, List.setIfInBounds_toArray, List.set_cons_zero, List.set_cons_succ]
      refine wpAnyH_take (i := 4) (v := .string ⟨c.toArray⟩) rfl (by kernel_rfl) (by kernel_rfl) (by kernel_rfl) (fun _ _ _ h => h) (Or.inl ⟨by rfl, ?_⟩) hHeld ?_
      · intro w' hSw; subst hSw; have kx := gx; go_simp
      try simp only [Act.put, List.getElem_toArray, List.getElem_cons_succ, List.getElem_cons_zero, List.setIfInBounds_toArray, List.set_cons_zero, List.set_cons_succ]
      refine wpAnyH_take (i := 5) (v := .pointer (some ⟨w.heap.size + 1, 0, none⟩)) rfl (by kernel_rfl) (by kernel_rfl) (by kernel_rfl) (fun _ _ _ h => h) (Or.inl ⟨by rfl, ?_⟩) hHeld ?_
      · intro w' hSw; subst hSw; go_simp <;> omega
      try simp only [Act.put, List.getElem_toArray, List.getElem_cons_succ, List.getElem_cons_zero, List.setIfInBounds_toArray, List.set_cons_zero, List.set_cons_succ]
      refine wpAnyH_take (i := 6) (v := .slice (some ⟨by_, oy, none⟩) q ccb) rfl (by kernel_rfl) (by kernel_rfl) (by kernel_rfl) (fun _ _ _ h => h) (Or.inl ⟨by rfl, ?_⟩) hHeld ?_
      · intro w' hSw; subst hSw; have kx := e0; go_simp
      try simp only [Act.put, List.getElem_toArray, List.getElem_cons_succ, List.getElem_cons_zero, List.setIfInBounds_toArray, List.set_cons_zero, List.set_cons_succ]
      refine wpAnyH_take (i := 7) (v := .int .i64 ((k : Int))) rfl (by kernel_rfl) (by kernel_rfl) (by kernel_rfl) (fun _ _ _ h => h) (Or.inl ⟨by rfl, ?_⟩) hHeld ?_
      · intro w' hSw; subst hSw; go_simp <;> omega
      try simp only [Act.put, List.getElem_toArray, List.getElem_cons_succ, List.getElem_cons_zero, List.setIfInBounds_toArray, List.set_cons_zero, List.set_cons_succ]
      refine wpAnyH_take (i := 8) (v := .pointer (some ⟨by_, oy + k, none⟩)) rfl (by kernel_rfl) (by kernel_rfl) (by kernel_rfl) (fun _ _ _ h => h) (Or.inl ⟨by rfl, ?_⟩) hHeld ?_
      · intro w' hSw; subst hSw; go_simp <;> omega
      try simp only [Act.put, List.getElem_toArray, List.getElem_cons_succ, List.getElem_cons_zero, List.setIfInBounds_toArray, List.set_cons_zero, List.set_cons_succ]
      refine wpAnyH_take (i := 9) (v := .string ⟨c.toArray⟩) rfl (by kernel_rfl) (by kernel_rfl) (by kernel_rfl) (fun _ _ _ h => h) (Or.inl ⟨by rfl, ?_⟩) hHeld ?_
      · intro w' hSw; subst hSw; have kx := gy; go_simp
      try simp only [Act.put, List.getElem_toArray, List.getElem_cons_succ, List.getElem_cons_zero, List.setIfInBounds_toArray, List.set_cons_zero, List.set_cons_succ]
      refine wpAnyH_take (i := 10) (v := .bool false) rfl (by kernel_rfl) (by kernel_rfl) (by kernel_rfl) (fun _ _ _ h => h) (Or.inl ⟨by rfl, ?_⟩) hHeld ?_
      · intro w' hSw; subst hSw; go_simp <;> omega
      try simp only [Act.put, List.getElem_toArray, List.getElem_cons_succ, List.getElem_cons_zero, List.setIfInBounds_toArray, List.set_cons_zero, List.set_cons_succ]
      refine wpAnyH_done (by kernel_rfl) ?_ _
      clear hHeld
      go_wp2_with fail
      go_roundw
      case rel => exact ⟨k + 1, by omega, by go_num, HB.out.drew⟩
      case measure => simp [intOf]; omega
    · obtain rfl : k = q := by omega
      go_upto_region 8 with fail
      go_wp2_with fail
      go_loopw [6] (fun t6 wr => ∃ k : Nat, k ≤ m ∧ t6 = .int .i64 k ∧ Below w0.heap.size w0 wr) (fun t6 _ => m - (intOf t6).toNat)
      case atStart => exact ⟨0, Nat.zero_le _, rfl, HB.out⟩
      case round =>
        clear HB HBw Hb1 Hb2 d0 d1 e0 e1 hz kk0
        obtain ⟨k, hk, rfl, hB⟩ := hrel
        obtain ⟨wo, ewo⟩ : ∃ x, x = wr := ⟨_, rfl⟩
        subst ewo
        have hz := hB.size
        have HB := Lib.hid hB
        have HBw := Lib.hid (HB0.out.trans (hB.mono (by omega)))
        have kk0 : (0 : Int) ≤ (k : Int) := by omega
        have Hb1 := Lib.hid (HA.out.below hB (by omega))
        have Hb2 := Lib.hid (HBb.out.below hB hz0)
        clear hB
        have hl1 : w.heap.size < wo.heap.size := by omega
        have hl2 : w.heap.size + 1 < wo.heap.size := by omega
        obtain ⟨d0, d1⟩ := Hb1.out.cells.c2
        simp only [Nat.zero_add] at d1
        by_cases hlt : k < m
        · have hltl : k < l.length := by rw [← Hm.out]; exact hlt
          obtain ⟨ao', cap', e', -, -, -, hc⟩ := (Sl.below HLa.out rowE_loc HBw.out h3).form
          injection e' with e1' e2' e3'
          subst e1' e3'
          obtain ⟨bx, ox, rfl, hb1, hb2, hcc⟩ := hc k hltl
          obtain ⟨cs, _, hcs, sv, rfl, hsv⟩ := hcc k hltl
          have Hca := Lib.hid hcs
          have Hrx := Lib.hid hsv
          obtain ⟨ax, cx, rfl, -, -, -, -⟩ := hsv.form
          clear hc hcc hcs hsv
          obtain ⟨ao', cap', e', -, -, -, hc⟩ := (Sl.below HLb.out rowE_loc HBw.out h4).form
          injection e' with e1' e2' e3'
          subst e1' e3'
          obtain ⟨by_, oy, rfl, hb3, hb4, hcc⟩ := hc k hltl
          obtain ⟨cs, _, hcs, sv, rfl, hsv⟩ := hcc k hltl
          have Hcb := Lib.hid hcs
          have Hry := Lib.hid hsv
          obtain ⟨ay, cy, rfl, -, -, -, -⟩ := hsv.form
          clear hc hcc hcs hsv
          have hbxw : bx < wo.heap.size := by omega
          have hbyw : by_ < wo.heap.size := by omega
          have Hsx := Lib.hid (Hrs.out _ (List.getElem_mem hltl))
          generalize l[k] = x at *
          have kkl : (k : Int) < (m : Int) := by omega
          go_upto_region 11 with fail
          have hS0 : Below wo.heap.size wo wo.drew := (Below.refl _ _).drew
          refine wp_region_held_drew (S := fun w' => Below wo.heap.size wo w') (by kernel_rfl) hS0 (fun hHeld => ?_)
          refine wpAnyH_take (i := 0) (v := .pointer (some ⟨w.heap.size, 1, none⟩)) rfl (by kernel_rfl) (by kernel_rfl) (by kernel_rfl) (fun _ _ _ h => h) (Or.inl ⟨by rfl, ?_⟩) hHeld ?_
          · intro w' hSw; go_simp
          try simp only [Act.put, List.getElem_toArray, List.getElem_cons_succ, List.getElem_cons_zero, List.setIfInBounds_toArray, List.set_cons_zero, List.set_cons_succ]
          refine wpAnyH_take (i := 1) (v := .slice (some ⟨bx, ox, none⟩) m cla) rfl (by kernel_rfl) (by kernel_rfl) (by kernel_rfl) (fun _ _ _ h => h) (Or.inl ⟨by rfl, ?_⟩) hHeld ?_
          · intro w' hSw; obtain ⟨z0, z1⟩ := (Hb1.out.below hSw hl1).cells.c2; simp only [Nat.zero_add] at z1; go_simp
          try simp only [Act.put, List.getElem_toArray, List.getElem_cons_succ, List.getElem_cons_zero, List.setIfInBounds_toArray, List.set_cons_zero, List.set_cons_succ]
          refine wpAnyH_take (i := 2) (v := .int .i64 ((k : Int))) rfl (by kernel_rfl) (by kernel_rfl) (by kernel_rfl) (fun _ _ _ h => h) (Or.inl ⟨by rfl, ?_⟩) hHeld ?_
          · intro w' hSw; go_simp
          try simp only [Act.put, List.getElem_toArray, List.getElem_cons_succ, List.getElem_cons_zero, List.setIfInBounds_toArray, List.set_cons_zero, List.set_cons_succ]
          refine wpAnyH_take (i := 3) (v := .pointer (some ⟨bx, ox + k, none⟩)) rfl (by kernel_rfl) (by kernel_rfl) (by kernel_rfl) (fun _ _ _ h => h) (Or.inl ⟨by rfl, ?_⟩) hHeld ?_
          · intro w' hSw; go_simp
          try simp only [Act.put, List.getElem_toArray, List.getElem_cons_succ, List.getElem_cons_zero, List.setIfInBounds_toArray, List.set_cons_zero, List.set_cons_succ]
          refine wpAnyH_take (i := 4) (v := .slice ax x.length cx) rfl (by kernel_rfl) (by kernel_rfl) (by kernel_rfl) (fun _ _ _ h => h) (Or.inl ⟨by rfl, ?_⟩) hHeld ?_
          · intro w' hSw; have kx := (Hca.out.agree (.below hSw (Nat.le_refl _)) (Nat.zero_le _) hbxw).c1; rw [Nat.mul_one] at kx; go_simp
          try simp only [Act.put, List.getElem_toArray, List.getElem_cons_succ, List.getElem_cons_zero, List.setIfInBounds_toArray, List.set_cons_zero, List.set_cons_succ]
          refine wpAnyH_take (i := 5) (v := .pointer (some ⟨w.heap.size + 1, 1, none⟩)) rfl (by kernel_rfl) (by kernel_rfl) (by kernel_rfl) (fun _ _ _ h => h) (Or.inl ⟨by rfl, ?_⟩) hHeld ?_
          · intro w' hSw; go_simp
          try simp only [Act.put, List.getElem_toArray, List.getElem_cons_succ, List.getElem_cons_zero, List.setIfInBounds_toArray, List.set_cons_zero, List.set_cons_succ]
          refine wpAnyH_take (i := 6) (v := .slice (some ⟨by_, oy, none⟩) m clb) rfl (by kernel_rfl) (by kernel_rfl) (by kernel_rfl) (fun _ _ _ h => h) (Or.inl ⟨by rfl, ?_⟩) hHeld ?_
          · intro w' hSw; obtain ⟨z0, z1⟩ := (Hb2.out.below hSw hl2).cells.c2; simp only [Nat.zero_add] at z1; go_simp
          try simp only [Act.put, List.getElem_toArray, List.getElem_cons_succ, List.getElem_cons_zero, List.setIfInBounds_toArray, List.set_cons_zero, List.set_cons_succ]
          refine wpAnyH_take (i := 7) (v := .int .i64 ((k : Int))) rfl (by kernel_rfl) (by kernel_rfl) (by kernel_rfl) (fun _ _ _ h => h) (Or.inl ⟨by rfl, ?_⟩) hHeld ?_
          · intro w' hSw; go_simp
          try simp only [Act.put, List.getElem_toArray, List.getElem_cons_succ, List.getElem_cons_zero, List.setIfInBounds_toArray, List.set_cons_zero, List.set_cons_succ]
          refine wpAnyH_take (i := 8) (v := .pointer (some ⟨by_, oy + k, none⟩)) rfl (by kernel_rfl) (by kernel_rfl) (by kernel_rfl) (fun _ _ _ h => h) (Or.inl ⟨by rfl, ?_⟩) hHeld ?_
          · intro w' hSw; go_simp
          try simp only [Act.put, List.getElem_toArray, List.getElem_cons_succ, List.getElem_cons_zero, List.setIfInBounds_toArray, List.set_cons_zero, List.set_cons_succ]
          refine wpAnyH_take (i := 9) (v := .slice ay x.length cy) rfl (by kernel_rfl) (by kernel_rfl) (by kernel_rfl) (fun _ _ _ h => h) (Or.inl ⟨by rfl, ?_⟩) hHeld ?_
          · intro w' hSw; have kx := (Hcb.out.agree (.below hSw (Nat.le_refl _)) (Nat.zero_le _) hbyw).c1; rw [Nat.mul_one] at kx; go_simp
          try simp only [Act.put, List.getElem_toArray, List.getElem_cons_succ, List.getElem_cons_zero, List.setIfInBounds_toArray, List.set_cons_zero, List.set_cons_succ]
          refine wpAnyH_ready (rs := [10]) (by kernel_rfl) (by simp) ?_
          refine allCall (f := 47) (args := #[.slice ax x.length cx, .slice ay x.length cy]) rfl (by kernel_rfl) (by kernel_rfl) ?_ AllReadyH.nil
          refine refRowsCompare_any lo hi lo2 hi2 x x _ _ wo.drew (Sl.below Hrx.out Row1.loc hS0 (by omega)) (Sl.below Hry.out Row1.loc hS0 (by omega)) (by show hi ≤ wo.heap.size; omega) (by show hi2 ≤ wo.heap.size; omega) Hsx.out Hsx.out _ (fun w5 hB5 => ?_)
          rw [cmpR_self]
          refine ⟨_, rfl, hS0.trans (hB5.mono (Nat.le_refl _)), ?_⟩
          have HB5 := Lib.hid (hS0.trans (hB5.mono (Nat.le_refl _)))
          clear hB5 hHeld
          have hHeld := HB5.out
          try simp only [Act.put, List.getElem_toArray, List.getElem_cons_succ, List.getElem_cons_zero, List.setIfInBounds_toArray, List.set_cons_zero, List.set_cons_succ]
          refine wpAnyH_take (i := 11) (v := .int .i64 0) rfl (by kernel_rfl) (by kernel_rfl) (by kernel_rfl) (fun _ _ _ h => h) (Or.inl ⟨by rfl, ?_⟩) hHeld ?_
          · intro w' hSw; go_simp
          try simp only [Act.put, List.getElem_toArray, List.getElem_cons_succ, List.getElem_cons_zero, List.setIfInBounds_toArray, List.set_cons_zero, List.set_cons_succ]
          refine wpAnyH_done (by kernel_rfl) ?_ _
          clear hHeld
          go_wp2_with fail
          go_roundw
          case rel => exact ⟨k + 1, by omega, by go_num, HB.out.trans (HB5.out.mono hz)⟩
          case measure => simp [intOf]; omega
        · obtain rfl : k = m := by omega
          have llt : ¬ ((k : Nat) : Int) < (k : Int) := by omega
          have hr := HR.out _ HBw.out
          go_wp2_with fail
          first | exact hr | exact fin hr rfl
end Go.Proofs.YtmconajkgjfplaaGreat
end

/- The law's same on relations that are alike. (Printed by rowo.py.) -/
section
set_option linter.unusedVariables false
set_option linter.unusedSimpArgs false
namespace Go.Proofs.YtmconajkgjfplaaGreat
open Go.RowKit
set_option linter.unusedVariables false
set_option linter.unusedSimpArgs false

end Go.Proofs.YtmconajkgjfplaaGreat
end

/- Slices whose memory may be written, whatever it holds. -/
section
set_option linter.unusedVariables false
set_option linter.unusedSimpArgs false
namespace Go.Proofs.YtmconajkgjfplaaGreat
open Go.RowKit
set_option linter.unusedVariables false
set_option linter.unusedSimpArgs false

/-- v has n elements in a block of its own among lo .. hi that may be written; what it holds is not said. -/
def Shp (e : TypeId) (size lo hi : Nat) (w : World) (v : Value) (n : Nat) : Prop :=
  (n = 0 ∧ v = .slice none 0 0) ∨ ∃ g cap cur, v = .slice (some ⟨g, 0, none⟩) n cap ∧ lo ≤ g ∧ g < hi ∧ n ≤ cap ∧ cap ≤ 9223372036854775807 ∧ w.heap[g]? = some (.cells cur e) ∧ n * size ≤ cur.size
theorem heap_setCell_shape {w : World} {g : Nat} {cur : Array Value} {e : TypeId} (h : w.heap[g]? = some (.cells cur e)) (b i : Nat) (u : Value) : ∃ cur', (w.setCell ⟨b, i, none⟩ u).heap[g]? = some (.cells cur' e) ∧ cur'.size = cur.size := by
  by_cases hg : g = b
  · subst hg
    have hb : Blk w g cur.toList e := by unfold Blk; simpa using h
    have hs := hb.set i u
    unfold Blk at hs
    exact ⟨_, hs, by simp⟩
  · exact ⟨cur, (Below.heap_setCell _ _ _ _ hg).trans h, rfl⟩
theorem Shp.setCell {e : TypeId} {size lo hi : Nat} {w : World} {v : Value} {n : Nat} (h : Shp e size lo hi w v n) (b i : Nat) (u : Value) : Shp e size lo hi (w.setCell ⟨b, i, none⟩ u) v n := by
  rcases h with h | ⟨g, cap, cur, rfl, h1, h2, h3, h4, h5, h6⟩
  · exact .inl h
  · obtain ⟨cur', h5', h6'⟩ := heap_setCell_shape h5 b i u
    exact .inr ⟨g, cap, cur', rfl, h1, h2, h3, h4, h5', by omega⟩
theorem Shp.below {e : TypeId} {size lo hi B : Nat} {w w' : World} {v : Value} {n : Nat} (h : Shp e size lo hi w v n) (hB : Below B w w') (hb : hi ≤ B) : Shp e size lo hi w' v n := by
  rcases h with h | ⟨g, cap, cur, rfl, h1, h2, h3, h4, h5, h6⟩
  · exact .inl h
  · exact .inr ⟨g, cap, cur, rfl, h1, h2, h3, h4, (hB.block g (by omega)).trans h5, h6⟩
/-- A cell of it is there, and may be written. -/
theorem Shp.cell {e : TypeId} {size lo hi : Nat} {w : World} {v : Value} {n : Nat} (h : Shp e size lo hi w v n) {j : Nat} (hj : j < n) : ∃ g cap, v = .slice (some ⟨g, 0, none⟩) n cap ∧ lo ≤ g ∧ g < hi ∧ n ≤ cap ∧ cap ≤ 9223372036854775807 ∧ (∀ i, i < size → ∃ u, w.cell? ⟨g, j * size + i, none⟩ = some u) ∧ ∀ i, w.frozen? ⟨g, i, none⟩ = false := by
  rcases h with ⟨h, -⟩ | ⟨g, cap, cur, rfl, h1, h2, h3, h4, h5, h6⟩
  · omega
  · have hb : Blk w g cur.toList e := by unfold Blk; simpa using h5
    refine ⟨g, cap, rfl, h1, h2, h3, h4, fun i hi => ?_, fun i => hb.free i⟩
    have hlt : j * size + i < cur.toList.length := by
      have := Nat.mul_le_mul_right size (Nat.succ_le_of_lt hj)
      rw [Nat.succ_mul] at this
      rw [Array.length_toList]
      omega
    refine ⟨cur.toList[j * size + i], ?_⟩
    have := hb.cells (j * size + i) cur.toList[j * size + i] (List.getElem?_eq_getElem hlt)
    simpa using this
theorem Shp.ofOwn {α : Type} {enc : α → List Value} {e : TypeId} {size lo : Nat} {w : World} {v : Value} {xs : List α} (h : Own enc e size lo w v xs) : Shp e size lo w.heap.size w v xs.length := by
  have hl := Own.lt h
  rcases h.2 with ⟨ev, hn⟩ | ⟨g, cap, cur, ev, hb, hg, hnc, hcm, hcs, htake⟩
  · exact .inl ⟨hn, ev⟩
  · subst ev
    refine .inr ⟨g, cap, cur, rfl, hb, (hl g rfl).2, hnc, hcm, hg, ?_⟩
    have := Nat.mul_le_mul_right size hnc
    omega
end Go.Proofs.YtmconajkgjfplaaGreat
end

/- The document's: may a relation be? (Printed by rowv.py.) -/
section
set_option linter.unusedVariables false
set_option linter.unusedSimpArgs false
namespace Go.Proofs.YtmconajkgjfplaaGreat
open Go.RowKit
set_option linter.unusedVariables false
set_option linter.unusedSimpArgs false

end Go.Proofs.YtmconajkgjfplaaGreat
end

/- The document's Project, Rename and Has. (Printed by rowy.py.) -/
section
set_option linter.unusedVariables false
set_option linter.unusedSimpArgs false
namespace Go.Proofs.YtmconajkgjfplaaGreat
open Go.RowKit
set_option linter.unusedVariables false
set_option linter.unusedSimpArgs false
attribute [local go_sem ↓] Go.wp_at_zero Go.wp_at_succ

end Go.Proofs.YtmconajkgjfplaaGreat
end

/- What RowsPicks asks of each row. -/
section
set_option linter.unusedVariables false
set_option linter.unusedSimpArgs false
namespace Go.Proofs.YtmconajkgjfplaaGreat
open Go.RowKit
set_option linter.unusedVariables false
set_option linter.unusedSimpArgs false

/-- The state of what is asked: fine, and how often it was asked. -/
structure AskJ (bf ba br lo hi : Nat) (pc av : Option Addr) (nc cc cv : Nat) (l : List (List V)) (k : Nat) (w : World) : Prop where
  fine : Blk w bf [.bool true] 4
  asked : Blk w ba [.int .i64 k] 3
  box : Blk w br [.slice pc nc cc, .slice av l.length cv] 25
  rows : Rws lo hi w (.slice av l.length cv) l
  le : hi ≤ w.heap.size
theorem AskJ.below {bf ba br lo hi : Nat} {pc av : Option Addr} {nc cc cv : Nat} {l : List (List V)} {k B : Nat} {w w' : World} (h : AskJ bf ba br lo hi pc av nc cc cv l k w) (hB : Below B w w') (h1 : bf < B) (h2 : ba < B) (h3 : br < B) (h4 : hi ≤ B) : AskJ bf ba br lo hi pc av nc cc cv l k w' :=
  ⟨h.fine.below hB h1, h.asked.below hB h2, h.box.below hB h3, Sl.below h.rows rowE_loc hB h4, Nat.le_trans h.le hB.size⟩
theorem AskJ.set {bf ba br lo hi : Nat} {pc av : Option Addr} {nc cc cv : Nat} {l : List (List V)} {k : Nat} {w : World} (h : AskJ bf ba br lo hi pc av nc cc cv l k w) {g i : Nat} (u : Value) (h1 : bf < g) (h2 : ba < g) (h3 : br < g) (h4 : hi ≤ g) : AskJ bf ba br lo hi pc av nc cc cv l k (w.setCell ⟨g, i, none⟩ u) :=
  ⟨h.fine.other (by show bf ≠ g; omega) u, h.asked.other (by show ba ≠ g; omega) u, h.box.other (by show br ≠ g; omega) u, Sl.agree h.rows rowE_loc (Agree.setCell w (p := ⟨g, i, none⟩) (.inr h4) u), by rw [show (w.setCell ⟨g, i, none⟩ u).heap.size = w.heap.size by simp]; exact h.le⟩
theorem AskJ.next {bf ba br lo hi : Nat} {pc av : Option Addr} {nc cc cv : Nat} {l : List (List V)} {k : Nat} {w : World} (h : AskJ bf ba br lo hi pc av nc cc cv l k w) (hfa : bf ≠ ba) (hfr : bf ≠ br) (har : ba ≠ br) (hfl : bf < lo ∨ hi ≤ bf) (hal : ba < lo ∨ hi ≤ ba) :
    AskJ bf ba br lo hi pc av nc cc cv l (k + 1) ((w.setCell ⟨bf, 0, none⟩ (.bool true)).setCell ⟨ba, 0, none⟩ (.int .i64 ((k : Int) + 1))) :=
  ⟨(h.fine.set 0 (.bool true)).other (p := ⟨ba, 0, none⟩) hfa _, (h.asked.other (p := ⟨bf, 0, none⟩) (fun e => hfa e.symm) (.bool true)).set 0 (.int .i64 ((k : Int) + 1)), (h.box.other (p := ⟨bf, 0, none⟩) (fun e => hfr e.symm) _).other (p := ⟨ba, 0, none⟩) (fun e => har e.symm) _,
    Sl.agree h.rows rowE_loc ((Agree.setCell w (p := ⟨bf, 0, none⟩) hfl _).trans (Agree.setCell _ (p := ⟨ba, 0, none⟩) hal _)), by simp; exact h.le⟩
end Go.Proofs.YtmconajkgjfplaaGreat
end

/- The law's told on answers that are alike. (Printed by rowr.py.) -/
section
set_option linter.unusedVariables false
set_option linter.unusedSimpArgs false
namespace Go.Proofs.YtmconajkgjfplaaGreat
open Go.RowKit
set_option linter.unusedVariables false
set_option linter.unusedSimpArgs false

/-- The blocks that are written over. -/
def TB (ca : Value) (hs : List Value) (b : Nat) : Prop := ca.ownBlock = some b ∨ ∃ h ∈ hs, h.ownBlock = some b
/-- What the walk over a's rows and columns keeps. -/
structure ToldIn (lo hi : Nat) (w wr : World) (hs : List Value) (ns : List Nat) (la ca : Value) (nc : Nat) : Prop where
  own : OwnH lo wr la hs
  len : hs.length = ns.length
  row : ∀ i (h : i < hs.length) (h2 : i < ns.length), Shp 44 3 lo hi wr hs[i] ns[i]
  col : Shp 9 1 lo hi wr ca nc
  box : Blk wr hi [ca, la] 25
  bel : Below lo w wr
  only : Only (TB ca hs) w wr
theorem ToldIn.set {lo hi : Nat} {w wr : World} {hs : List Value} {ns : List Nat} {la ca : Value} {nc : Nat} (h : ToldIn lo hi w wr hs ns la ca nc) {b i : Nat} (u : Value) (h1 : lo ≤ b) (h2 : b < hi) (h3 : la.ownBlock ≠ some b) (h4 : TB ca hs b) : ToldIn lo hi w (wr.setCell ⟨b, i, none⟩ u) hs ns la ca nc :=
  ⟨Own.setOther h.own h3 u, h.len, fun k hk h2 => (h.row k hk h2).setCell b i u, h.col.setCell b i u, h.box.other (by show hi ≠ b; omega) u, h.bel.setCell (p := ⟨b, i, none⟩) h1 u, h.only.trans (Only.setCell wr (p := ⟨b, i, none⟩) h4 u)⟩
/-- A block of relations is not written over. -/
theorem TB.not {lo : Nat} {w : World} {ca la : Value} {hs : List Value} {cols : List S} {l : List (List V)} (hT : OwnT lo w ca cols) (hR : OwnR lo w la hs l) {b : Nat} {cs : List Value} {t : TypeId} (hb : Blk w b cs t) (h1 : t ≠ 9) (h2 : t ≠ 44) : ¬ TB ca hs b := by
  rintro (h | ⟨h, hh, e⟩)
  · exact Own.ne_blk hT hb h1 h
  · obtain ⟨i, hi, rfl⟩ := List.getElem_of_mem hh
    exact Own.ne_blk (hR.row i hi (by rw [← hR.len]; exact hi)) hb h2 e
end Go.Proofs.YtmconajkgjfplaaGreat
end

/- The law RowsOf, walked. (Printed by rowt.py.) -/
section
set_option linter.unusedVariables false
set_option linter.unusedSimpArgs false
namespace Go.Proofs.YtmconajkgjfplaaGreat
open Go.RowKit
set_option linter.unusedVariables false
set_option linter.unusedSimpArgs false

end Go.Proofs.YtmconajkgjfplaaGreat
end

/- The law RowsPicks, walked. (Printed by rowp.py.) -/
section
set_option linter.unusedVariables false
set_option linter.unusedSimpArgs false
namespace Go.Proofs.YtmconajkgjfplaaGreat
open Go.RowKit
set_option linter.unusedVariables false
set_option linter.unusedSimpArgs false
attribute [local go_sem ↓] Go.wp_at_zero Go.wp_at_succ

/-- Rows of which the headers are a call's own, and the values lie in some blocks ahead of these. -/
def LS (lo a b : Nat) (w : World) (v : Value) (xs : List (List V)) : Prop :=
  ∃ hs : List HD, hs.length = xs.length ∧ OwnHD lo w v hs ∧ ∀ i (h1 : i < hs.length) (h2 : i < xs.length), Row1 a b w hs[i].v xs[i]
theorem LS.nil (lo a b : Nat) (w : World) : LS lo a b w (.slice none 0 0) [] := ⟨[], rfl, Own.nil _ _ _ _ _, fun i h => absurd h (Nat.not_lt_zero _)⟩
theorem LS.slice {lo a b : Nat} {w : World} {v : Value} {xs : List (List V)} (h : LS lo a b w v xs) : ∃ p c, v = .slice p xs.length c := by
  obtain ⟨hs, hl, ho, -⟩ := h
  obtain ⟨p, c, e⟩ := Own.slice ho
  exact ⟨p, c, by rw [e, hl]⟩
theorem LS.lt {lo a b : Nat} {w : World} {v : Value} {xs : List (List V)} (h : LS lo a b w v xs) : ∀ k, v.ownBlock = some k → lo ≤ k ∧ k < w.heap.size := by
  obtain ⟨hs, hl, ho, hr⟩ := h
  exact Own.lt ho
theorem LS.rws {lo a b : Nat} {w : World} {v : Value} {xs : List (List V)} (h : LS lo a b w v xs) (hb : b ≤ w.heap.size) : Rws 0 w.heap.size w v xs := by
  obtain ⟨hs, hl, ho, hr⟩ := h
  have hsl : Sl (flat HD.enc) 1 lo w.heap.size w v hs := Sl.ofOwn (fun _ => rfl) ho
  obtain ⟨ao, cap, hv, hle, hcm, hn, hc⟩ := hsl.form
  refine ⟨ao, cap, by rw [hv, hl], by rw [← hl]; exact hle, by simpa [maxLen] using hcm, hn, fun hne => ?_⟩
  have h0 : 0 < hs.length := by
    rw [hl]
    cases xs with
    | nil => exact absurd rfl hne
    | cons a r => simp
  obtain ⟨b', off, rfl, hb1, hb2, hcc⟩ := hc 0 h0
  refine ⟨b', off, rfl, Nat.zero_le _, hb2, fun k hk => ?_⟩
  have hk' : k < hs.length := by rw [hl]; exact hk
  obtain ⟨cs, hcl, hcs, rfl⟩ := hcc k hk'
  exact ⟨_, hcl, hcs, hs[k].v, rfl, (hr k hk' hk).mono Row1.loc (Nat.zero_le _) hb⟩
theorem LS.same {lo a b : Nat} {w w' : World} {v : Value} {xs : List (List V)} (h : LS lo a b w v xs) (hv : ∀ g, v.ownBlock = some g → w'.heap[g]? = w.heap[g]?) (ha : Agree a b w w') : LS lo a b w' v xs := by
  obtain ⟨hs, hl, ho, hr⟩ := h
  exact ⟨hs, hl, Own.same ho hv, fun i h1 h2 => (hr i h1 h2).agree Row1.loc ha⟩
theorem LS.snoc {lo a b : Nat} {w : World} {v : Value} {xs : List (List V)} (h : LS lo a b w v xs) (hbl : b ≤ lo) (pa : Option Addr) (pc : Nat) (x : List V) (hx : Row1 a b w (.slice pa x.length pc) x) {n : Nat} (hn : n = w.heap.size) (hb : xs.length ≤ 4000000000000) (hlo : lo ≤ w.heap.size) :
    ∃ v' w', (Builtin.append_ #[23, 23] 23 #[v, .slice (some ⟨n, 0, none⟩) 1 1]).run Tryz.prog (w.alloc (.cells #[.slice pa x.length pc] 36)) = .ok v' w' ∧ LS lo a b w' v' (xs ++ [x]) ∧ Appended w v w' v' := by
  subst hn
  obtain ⟨hs, hl, ho, hr⟩ := h
  have hB := alloc_below w (.cells (HD.enc ⟨pa, x.length, pc⟩).toArray 36)
  obtain ⟨i0, hi, hz0, hz1, hz2⟩ := info_parts infoHD
  have hc := CellsAt.newAt w (HD.enc ⟨pa, x.length, pc⟩) 36 rfl
  have hsr : Src Tryz.prog 1 23 (.slice (some ⟨w.heap.size, 0, none⟩) 1 1) [(⟨pa, x.length, pc⟩ : HD)].length ([(⟨pa, x.length, pc⟩ : HD)].flatMap HD.enc) (w.alloc (.cells (HD.enc ⟨pa, x.length, pc⟩).toArray 36)) :=
    Src.ofSlice _ Tryz.underlying23 _ _ _ _ (by simp [HD.enc]) (fun j u hu => by rw [Addr.add_lit]; exact hc j u (by simpa using hu)) (fun u hu => by
      rw [List.flatMap_cons, List.flatMap_nil, List.append_nil] at hu
      exact HD.one _ u hu)
  obtain ⟨v', w', hrun, ho', hap⟩ := (Own.kept ho hB).app _ _ _ i0 _ 24 Tryz.underlying23 hi hz0 hz1 hz2 rfl hsr (by simp only [List.length_cons, List.length_nil]; omega) (by omega) (Nat.le_trans hlo hB.size)
  have hapw := (Appended.step v hB).trans hap
  have hag : Agree a b w w' := hapw.agree (by omega) (fun k e => .inr (by have := (Own.lt ho k e).1; omega))
  refine ⟨v', w', hrun, ⟨hs ++ [⟨pa, x.length, pc⟩], by simp [hl], ho', fun i h1 h2 => ?_⟩, hapw⟩
  by_cases hi2 : i < hs.length
  · rw [List.getElem_append_left hi2, List.getElem_append_left (by omega)]
    exact (hr i hi2 (by omega)).agree Row1.loc hag
  · have e1 : i = hs.length := by rw [List.length_append, List.length_singleton] at h1; omega
    subst e1
    rw [List.getElem_append_right (Nat.le_refl _), List.getElem_append_right (by omega)]
    simp only [hl, Nat.sub_self, List.getElem_cons_zero]
    exact hx.agree Row1.loc hag
end Go.Proofs.YtmconajkgjfplaaGreat
end

/- Rows sorted by key, in place: slices.SortStableFunc as fold.groups asks it. -/
section
set_option linter.unusedVariables false
set_option linter.unusedSimpArgs false
namespace Go.Proofs.YtmconajkgjfplaaGreat
open Go.RowKit Go.Sort Go.Shelf
set_option linter.unusedVariables false
set_option linter.unusedSimpArgs false
attribute [local go_sem ↓] Go.wp_at_zero Go.wp_at_succ

/-- A header and its row, of which the places are. -/
abbrev KRow (a b : Nat) (at' : List Int) (w : World) : Type := { p : HD × List V // Row1 a b w p.1.v p.2 ∧ AtOk p.2.length at' }
def krE {a b : Nat} {at' : List Int} {w : World} (p : KRow a b at' w) : Value := p.1.1.v
def krC {a b : Nat} {at' : List Int} {w : World} (p q : KRow a b at' w) : Int := cmpR (pickL p.1.2 at') (pickL q.1.2 at')
theorem kr_one {a b : Nat} {at' : List Int} {w : World} : OneCell (krE (a := a) (b := b) (at' := at') (w := w)) := fun p => rfl
theorem kr_swo {a b : Nat} {at' : List Int} {w : World} : SWO (ltOf (krC (a := a) (b := b) (at' := at') (w := w))) where
  irrefl p := by
    unfold ltOf krC
    rw [cmpR_cmp.self]
    simp
  trans p q r h1 h2 := by
    unfold ltOf krC at *
    simp only [decide_eq_true_eq] at *
    exact cmpR_cmp.trans _ _ _ h1 h2
  ntrans p q r h1 h2 := by
    unfold ltOf krC at *
    simp only [decide_eq_false_iff_not] at *
    generalize pickL p.1.2 at' = x at *
    generalize pickL q.1.2 at' = y at *
    generalize pickL r.1.2 at' = z at *
    intro h3
    have a1 := cmpR_cmp.three x y
    have a2 := cmpR_cmp.three y z
    by_cases e1 : cmpR x y = 0
    · rw [(cmpR_cmp.zero _ _).1 e1] at h3; omega
    · by_cases e2 : cmpR y z = 0
      · rw [← (cmpR_cmp.zero _ _).1 e2] at h3; omega
      · have b1 := cmpR_cmp.anti x y
        have b2 := cmpR_cmp.anti y z
        have := cmpR_cmp.trans z y x (by omega) (by omega)
        have b3 := cmpR_cmp.anti x z
        omega
theorem cmpKey_sort {a b la ha bt g n : Nat} {at' : List Int} {va : Value} {w : World} [Inhabited (KRow a b at' w)] (hbg : b ≤ g) (hag : ha ≤ g) (htg : bt < g) (hg : g < w.heap.size) (hb : Blk w bt [va] 58) (hat : Ints la ha w va at') (hlen : at'.length ≤ 1000000000000) :
    CmpLays1 Tryz.prog 53 #[.pointer (some ⟨bt, 0, none⟩)] (krE (a := a) (b := b) (at' := at') (w := w)) krC g 0 n w := by
  intro m os dk hs x y
  have hB : Below g w (sortWorld krE w g 0 m dk os) := below_sort dk (Nat.le_refl _) hg
  have hz := hB.size
  exact cmpKey_any a b a b la ha bt x.1.2 y.1.2 at' x.1.1.v y.1.1.v va (sortWorld krE w g 0 m dk os) (Sl.below x.2.1 Row1.loc hB hbg) (by omega) (Sl.below y.2.1 Row1.loc hB hbg) (by omega) (hb.below hB htg) (Sl.below hat Ints.loc hB hag) (by omega) x.2.2 y.2.2 hlen
    (fun e w' => e = .returned (.int .i64 (krC x y)) ∧ ∃ q os', w' = grow ((sortWorld krE w g 0 m dk os).drewN q) os') (fun w' hg => ⟨rfl, hg⟩)
theorem flat_HD (l : List HD) : l.flatMap HD.enc = l.map HD.v := by
  induction l with
  | nil => rfl
  | cons x r ih => rw [List.flatMap_cons, ih]; rfl
/-! ### at no row -/
set_option maxRecDepth 100000 in
set_option maxHeartbeats 2000000 in
theorem insertion_none (p : Option Addr) (cap : Nat) (fv : Value) (w : World) (R : Ending → World → Prop) (hR : R (.returned (.tuple #[])) w) :
    Calls Tryz.prog 94 #[.slice p 0 cap, .int .i64 0, .int .i64 0, fv] w R := by
  have h := AnyF.insertionSortCmpFunc_none (P := Tryz.prog) (ρ := sortRows_ren) { sortRows with } p cap fv w
  exact h.mono (fun e w' ⟨he, hw⟩ => by rw [he, hw]; exact hR)
set_option maxRecDepth 100000 in
set_option maxHeartbeats 2000000 in
theorem stable_none (p : Option Addr) (cap : Nat) (fv : Value) (w : World) (R : Ending → World → Prop) (hR : R (.returned (.tuple #[])) w) :
    Calls Tryz.prog 81 #[.slice p 0 cap, .int .i64 0, fv] w R := by
  have HR := Lib.hid hR
  clear hR
  go_enter Tryz.func81, Tryz.ntmps81
  go_wp2_with fail
  go_loopw [7, 8] (fun t7 t8 wr => t7 = .int .i64 0 ∧ t8 = .int .i64 20 ∧ w = wr) (fun _ t8 _ => 0)
  case atStart => exact ⟨rfl, rfl, rfl⟩
  case round =>
    obtain ⟨rfl, rfl, rfl⟩ := hrel
    go_wp2_with fail
    refine insertion_none p cap fv _ _ ?_
    go_wp2_with fail
    go_loopw [6] (fun t6 wr => t6 = .int .i64 20 ∧ w = wr) (fun _ _ => 0)
    case atStart => exact ⟨rfl, rfl⟩
    case round =>
      obtain ⟨rfl, rfl⟩ := hrel
      go_wp2_with fail
      go_end0
      exact HR.out
/-! ### any rows -/
set_option maxRecDepth 100000 in
set_option maxHeartbeats 4000000 in
theorem stableRows_any (lo a b la ha bt : Nat) (v va : Value) (xs : List (List V)) (at' : List Int) (w : World) (h : LS lo a b w v xs) (hbl : b ≤ lo) (hal : ha ≤ lo) (htl : bt < lo) (hb : Blk w bt [va] 58) (hat : Ints la ha w va at') (hok : ∀ x ∈ xs, AtOk x.length at') (hlen : at'.length ≤ 1000000000000) (hxl : xs.length < 1000000000000) (R : Ending → World → Prop)
    (hR : ∀ w' xs', Only (fun z => v.ownBlock = some z) w w' → LS lo a b w' v xs' → xs'.Perm xs → xs'.Pairwise (fun x y => 0 ≤ cmpR (pickL y at') (pickL x at')) → R (.returned (.tuple #[])) w') :
    Calls Tryz.prog 81 #[v, .int .i64 xs.length, .func (.func 53) #[] #[.pointer (some ⟨bt, 0, none⟩)]] w R := by
  obtain ⟨hs, hl, ho, hr⟩ := id h
  by_cases hx : hs = []
  · subst hx
    have hx2 : xs = [] := List.eq_nil_of_length_eq_zero (by rw [← hl]; rfl)
    subst hx2
    obtain ⟨p, cap, hv⟩ := Own.slice ho
    have hr2 := hR w [] (Only.refl _ _) h (List.Perm.refl _) List.Pairwise.nil
    have hv' : v = .slice p 0 cap := hv
    subst hv'
    exact stable_none p cap _ w R hr2
  · rcases ho.2 with ⟨-, hn⟩ | ⟨g, cap, cur, hv, hbg, hg, hnc, hcm, hcs, htake⟩
    · exact absurd (List.eq_nil_of_length_eq_zero hn) hx
    rw [Nat.mul_one] at hcs htake
    rw [flat_HD] at htake
    have hgl : g < w.heap.size := (Array.getElem?_eq_some_iff.1 hg).1
    have hpos : 0 < hs.length := by
      cases hs with
      | nil => exact absurd rfl hx
      | cons a r => simp
    haveI : Inhabited (KRow a b at' w) := ⟨⟨(hs[0], xs[0]'(by omega)), hr 0 hpos (by omega), hok _ (List.getElem_mem _)⟩⟩
    let d : Array (KRow a b at' w) := Array.ofFn (n := hs.length) (fun i => ⟨(hs[i.1], xs[i.1]'(by rw [← hl]; exact i.2)), hr i.1 i.2 (by rw [← hl]; exact i.2), hok _ (List.getElem_mem _)⟩)
    have hd : d.size = hs.length := Array.size_ofFn
    have hd2 : d.toList.map (fun p => p.1.2) = xs := by
      apply List.ext_getElem
      · simp [hd, hl]
      · intro i h1 h2; simp [d]
    have hH : Holds krE w g 0 d := by
      intro j hj
      have hj' : j < hs.length := by rw [← hd]; exact hj
      refine ⟨?_, by simp [World.frozen?, hg]⟩
      have h1 : (cur.toList.take hs.length)[j]? = (hs.map HD.v)[j]? := by rw [htake]
      rw [List.getElem?_take_of_lt hj'] at h1
      simp only [World.cell?, hg, Nat.zero_add]
      simp only [Option.isSome_none, Bool.false_eq_true, if_false]
      rw [← Array.getElem?_toList, h1, List.getElem?_map, List.getElem?_eq_getElem hj', getElem!_pos d j hj]
      simp [d, krE]
    have hc := stable_s krE krC kr_swo 53 #[.pointer (some ⟨bt, 0, none⟩)] g 0 cap d w (enters_of Tryz.func53 (by kernel_rfl) rfl) (cmpKey_sort (by omega) (by omega) (by omega) hgl hb hat hlen) ⟨kr_one, hH, hgl⟩ (by omega)
    rw [hd] at hc
    rw [hv, ← hl]
    refine Calls.mono hc (fun e w' ⟨he, d', hp, hso, n, os, hw⟩ => ?_)
    subst he
    have hds : d'.size = hs.length := by rw [hp.1, hd]
    have hperm : d'.toList.Perm d.toList := by
      have := hp.2.2
      rwa [Array.extract_eq_self_of_le (by omega), Array.extract_eq_self_of_le (by omega)] at this
    have hl' : (d'.toList.map fun p => p.1.1).length = hs.length := by simp [hds]
    have hgl' := size_sort (enc := krE) (w := w) (g := g) (n := n) (os := os) d'
    refine hR w' (d'.toList.map (fun p => p.1.2)) (by rw [hw, hv]; exact ⟨rfl, rfl, rfl, hgl', fun k hk hn => heap_sortOther d' hk (fun e => hn (by rw [e]; rfl))⟩) ?_ (by rw [← hd2]; exact hperm.map _) ?_
    · refine ⟨d'.toList.map (fun p => p.1.1), by simp, ?_, fun i hi h2 => ?_⟩
      · refine ⟨by rw [hl', flat_HD, Nat.mul_one, List.length_map, hl'], .inr ⟨g, cap, _, by rw [hl', hv], hbg, by rw [hw]; exact heap_sortRow d' hg, by rw [hl']; exact hnc, hcm, by simp [putCells, hcs], ?_⟩⟩
        rw [hl', flat_HD, Nat.mul_one, ← hds, List.map_map]
        exact take_putCells' krE cur d' (by omega)
      · simp only [List.getElem_map]
        rw [hw]
        exact Sl.below (d'.toList[i]'(by simpa using hi)).2.1 Row1.loc (below_sort d' hbg hgl) hbl
    · rw [List.pairwise_map, List.pairwise_iff_getElem]
      intro i j hi hj hij
      have := hso i j (Nat.zero_le _) hij (by rw [← hds]; simpa using hj)
      rw [getElem!_pos d' i (by simpa using hi), getElem!_pos d' j (by simpa using hj)] at this
      unfold ltOf krC at this
      simpa using this
set_option maxRecDepth 100000 in
set_option maxHeartbeats 4000000 in
theorem SortStable_any (lo a b la ha bt : Nat) (v va : Value) (xs : List (List V)) (at' : List Int) (w : World) (h : LS lo a b w v xs) (hbl : b ≤ lo) (hal : ha ≤ lo) (htl : bt < lo) (hb : Blk w bt [va] 58) (hat : Ints la ha w va at') (hok : ∀ x ∈ xs, AtOk x.length at') (hlen : at'.length ≤ 1000000000000) (hxl : xs.length < 1000000000000) (R : Ending → World → Prop)
    (hR : ∀ w' xs', Only (fun z => v.ownBlock = some z) w w' → LS lo a b w' v xs' → xs'.Perm xs → xs'.Pairwise (fun x y => 0 ≤ cmpR (pickL y at') (pickL x at')) → R (.returned (.tuple #[])) w') :
    Calls Tryz.prog 52 #[v, .func (.func 53) #[] #[.pointer (some ⟨bt, 0, none⟩)]] w R := by
  have HR := Lib.hid hR
  have Hh := Lib.hid h
  have Hb := Lib.hid hb
  have Hat := Lib.hid hat
  have Hok := Lib.hid hok
  obtain ⟨p, cap, rfl⟩ := LS.slice h
  clear hR h hb hat hok
  go_enter Tryz.func52, Tryz.ntmps52
  go_wp2_with fail
  refine stableRows_any lo a b la ha bt _ va xs at' w Hh.out hbl hal htl Hb.out Hat.out Hok.out hlen hxl _ (fun w' xs' hO hL hP hS => ?_)
  have hr := HR.out w' xs' hO hL hP hS
  clear hO hL hP hS
  go_wp2_with fail
  go_end0
  exact hr
/-! ### the headers copied -/
set_option maxRecDepth 100000 in
set_option maxHeartbeats 2000000 in
theorem CloneRws_any (lo hi : Nat) (l : List (List V)) (v : Value) (w : World) (hk : Rws lo hi w v l) (hhi : hi ≤ w.heap.size) (hlen : l.length ≤ 4000000000000)
    (R : Ending → World → Prop) (hR : ∀ w' v', Below w.heap.size w w' → LS w.heap.size lo hi w' v' l → R (.returned v') w') : Calls Tryz.prog 51 #[v] w R := by
  obtain ⟨hs, hl, hsl, hrow⟩ := rws_raw hk
  have Hrow := Lib.hid hrow
  have Hto : Hid (∀ w' v', Below w.heap.size w w' → OwnHD w.heap.size w' v' hs → R (.returned v') w') := Lib.hid (fun w' v' hB ho => hR w' v' hB ⟨hs, hl, ho, fun i h1 h2 => Sl.below (Hrow.out i h1 h2) Row1.loc hB hhi⟩)
  rw [← hl] at hlen
  clear hR hrow hk hl
  rcases hsl.cases with ⟨rfl, ao, cap, rfl, -, hn⟩ | ⟨hp, b, off, cap, rfl, hle, hle2, hb1, hb2, hc⟩
  · cases ao with
    | none =>
      cases hn rfl
      have hq := fun w => Lib.run_eql_slice_nil (P := Tryz.prog) w 23 36 none 0 0 0 0 Tryz.underlying23
      go_enter Tryz.func51, Tryz.ntmps51
      go_wp2_with (at_builtin; refine AtApp.of ?_)
      first | exact Hto.out _ _ (Below.refl _ _) (Own.nil _ _ _ _ _) | exact fin (Hto.out _ _ (Below.refl _ _) (Own.nil _ _ _ _ _)) rfl
    | some a =>
      have hq := fun w => Lib.run_eql_slice_nil (P := Tryz.prog) w 23 36 (some a) 0 cap 0 0 Tryz.underlying23
      have Hk := Lib.hid hsl
      clear hsl
      go_enter Tryz.func51, Tryz.ntmps51
      go_wp2_with (at_builtin; refine AtApp.of ?_)
      have hB1 : Below w.heap.size w (w.alloc (.cells #[] 36)) := (Below.refl _ _).alloc (Nat.le_refl _) _
      obtain ⟨i0, hi0, hz0, hz1, hz2⟩ := info_parts infoHD
      obtain ⟨v2, w2, hr, ho2, ha2⟩ := (Own.made HD.enc 36 1 w.heap.size w rfl (Nat.le_refl _)).app (ys := ([] : List HD)) _ _ _ i0 _ 24 Tryz.underlying23 hi0 hz0 hz1 hz2 rfl (Src.ofSl (Sl.below Hk.out (flat_loc _) hB1 hhi) (fun _ => rfl) HD.one Tryz.underlying23) (by simp) (by omega) hB1.size
      refine AtApp.go hr rfl rfl rfl rfl ?_
      have hB2 : Below w.heap.size w w2 := hB1.trans (ha2.below hB1.size (fun k e => by simp [Value.ownBlock] at e; omega))
      clear hr ha2
      go_wp2
      exact fin (Hto.out _ _ hB2 ho2) rfl
  · have Hk := Lib.hid hsl
    clear hsl hc
    have hq := fun w => Lib.run_eql_slice_nil (P := Tryz.prog) w 23 36 (some ⟨b, off, none⟩) hs.length cap 0 0 Tryz.underlying23
    go_enter Tryz.func51, Tryz.ntmps51
    go_wp2_with (at_builtin; refine AtApp.of ?_)
    have hB1 : Below w.heap.size w (w.alloc (.cells #[] 36)) := (Below.refl _ _).alloc (Nat.le_refl _) _
    obtain ⟨i0, hi0, hz0, hz1, hz2⟩ := info_parts infoHD
    obtain ⟨v2, w2, hr, ho2, ha2⟩ := (Own.made HD.enc 36 1 w.heap.size w rfl (Nat.le_refl _)).app (ys := hs) _ _ _ i0 _ 24 Tryz.underlying23 hi0 hz0 hz1 hz2 rfl (Src.ofSl (Sl.below Hk.out (flat_loc _) hB1 hhi) (fun _ => rfl) HD.one Tryz.underlying23) (by simp; omega) (by omega) hB1.size
    refine AtApp.go hr rfl rfl rfl rfl ?_
    have hB2 : Below w.heap.size w w2 := hB1.trans (ha2.below hB1.size (fun k e => by simp [Value.ownBlock] at e; omega))
    clear hr ha2
    go_wp2
    exact fin (Hto.out _ _ hB2 ho2) rfl
end Go.Proofs.YtmconajkgjfplaaGreat
end

/- Rows in groups of one key, in plain words. -/
section
set_option linter.unusedVariables false
set_option linter.unusedSimpArgs false
namespace Go.Proofs.YtmconajkgjfplaaGreat
set_option linter.unusedVariables false
set_option linter.unusedSimpArgs false

section
variable (f : List V → List V)
/-- Rows that follow one another with one key. -/
def runsK : List (List V) → List (List (List V))
  | [] => []
  | x :: r => match runsK r with
    | [] => [[x]]
    | g :: gs => if cmpR (f x) (f (g.headD [])) = 0 then (x :: g) :: gs else [x] :: g :: gs
/-- A group's key. -/
def keyG (g : List (List V)) : List V := f (g.headD [])
def oneKey (g : List (List V)) : Prop := g ≠ [] ∧ ∀ x ∈ g, f x = keyG f g
theorem runsK_flat (l : List (List V)) : (runsK f l).flatten = l := by
  induction l with
  | nil => rfl
  | cons x r ih =>
    rw [runsK]
    cases h : runsK f r with
    | nil => rw [h] at ih; simp only [List.flatten_cons, List.flatten_nil] at ih ⊢; rw [← ih]; rfl
    | cons g gs =>
      rw [h] at ih
      rw [← ih]
      show (if cmpR (f x) (f (g.headD [])) = 0 then (x :: g) :: gs else [x] :: g :: gs).flatten = x :: (g :: gs).flatten
      split <;> rfl
theorem runsK_one (l : List (List V)) : ∀ g ∈ runsK f l, oneKey f g := by
  induction l with
  | nil => intro g hg; cases hg
  | cons x r ih =>
    rw [runsK]
    cases h : runsK f r with
    | nil =>
      intro g hg
      rw [List.mem_singleton.1 hg]
      exact ⟨by simp, fun y hy => by rw [List.mem_singleton.1 hy]; rfl⟩
    | cons g gs =>
      rw [h] at ih
      show ∀ g' ∈ (if cmpR (f x) (f (g.headD [])) = 0 then (x :: g) :: gs else [x] :: g :: gs), oneKey f g'
      split
      · rename_i h0
        intro g' hg
        rcases List.mem_cons.1 hg with rfl | hg
        · refine ⟨by simp, fun y hy => ?_⟩
          rcases List.mem_cons.1 hy with rfl | hy
          · rfl
          · rw [(ih g List.mem_cons_self).2 y hy]
            exact ((cmpR_cmp.zero _ _).1 h0).symm
        · exact ih g' (List.mem_cons_of_mem _ hg)
      · intro g' hg
        rcases List.mem_cons.1 hg with rfl | hg
        · exact ⟨by simp, fun y hy => by rw [List.mem_singleton.1 hy]; rfl⟩
        · exact ih g' hg
theorem runsK_head {x : List V} {r : List (List V)} : ∃ g gs, runsK f (x :: r) = g :: gs ∧ keyG f g = f x ∧ g.headD [] = x := by
  rw [runsK]
  cases h : runsK f r with
  | nil => exact ⟨[x], [], rfl, rfl, rfl⟩
  | cons g gs =>
    show ∃ g' gs', (if cmpR (f x) (f (g.headD [])) = 0 then (x :: g) :: gs else [x] :: g :: gs) = g' :: gs' ∧ _
    split
    · exact ⟨_, _, rfl, rfl, rfl⟩
    · exact ⟨_, _, rfl, rfl, rfl⟩
theorem runsK_keys : ∀ l : List (List V), (runsK f l).map (keyG f) = compactL cmpR (l.map f)
  | [] => rfl
  | [x] => rfl
  | x :: y :: r => by
    have ih := runsK_keys (y :: r)
    obtain ⟨g, gs, h, hk, hh⟩ := runsK_head f (x := y) (r := r)
    rw [runsK, h]
    rw [h] at ih
    show (if cmpR (f x) (f (g.headD [])) = 0 then (x :: g) :: gs else [x] :: g :: gs).map (keyG f) = _
    rw [List.map_cons, List.map_cons, compactL, ← List.map_cons, ← ih, hh]
    have e := cmpR_cmp.anti (f x) (f y)
    by_cases h0 : cmpR (f x) (f y) = 0
    · rw [if_pos h0, if_pos (by omega), List.map_cons, List.map_cons, hk]
      congr 1
      exact (cmpR_cmp.zero _ _).1 h0
    · rw [if_neg h0, if_neg (by omega), List.map_cons]
      rfl
/-- The keys of rows, each once, in order. -/
def keysL (l : List (List V)) : List (List V) := canonL cmpR (l.map f)
/-- The rows with a key. -/
def withK (l : List (List V)) (k : List V) : List (List V) := l.filter fun x => cmpR (f x) k == 0
theorem runsK_canon {l m : List (List V)} (hs : l.Pairwise fun x y => 0 ≤ cmpR (f y) (f x)) (hp : l.Perm m) : (runsK f l).map (keyG f) = keysL f m := by
  rw [runsK_keys, keysL]
  refine compact_canon cmpR_cmp ?_ (fun x => (hp.map f).mem_iff)
  rw [List.pairwise_map]
  exact hs.imp (fun h => by omega)
theorem flat_filter {f : List V → List V} : ∀ (G : List (List (List V))), (∀ g ∈ G, oneKey f g) → Up cmpR (G.map (keyG f)) → ∀ k (h : k < G.length), withK f G.flatten (keyG f G[k]) = G[k]
  | [], _, _, k, h => absurd h (Nat.not_lt_zero _)
  | g :: G, h1, h2, k, h => by
    have hu := List.pairwise_cons.1 (show Up cmpR (keyG f g :: G.map (keyG f)) from h2)
    have hg := h1 g List.mem_cons_self
    rw [withK, List.flatten_cons, List.filter_append]
    cases k with
    | zero =>
      simp only [List.getElem_cons_zero]
      rw [List.filter_eq_self.2 (fun x hx => by rw [hg.2 x hx]; simp [cmpR_cmp.self]), List.filter_eq_nil_iff.2 (fun x hx => ?_), List.append_nil]
      obtain ⟨g', hg', hx'⟩ := List.mem_flatten.1 hx
      rw [(h1 g' (List.mem_cons_of_mem _ hg')).2 x hx']
      have := hu.1 _ (List.mem_map.2 ⟨g', hg', rfl⟩)
      have e := cmpR_cmp.anti (keyG f g') (keyG f g)
      simp only [beq_iff_eq]
      omega
    | succ k =>
      simp only [List.getElem_cons_succ]
      have hk : k < G.length := by simpa using h
      have := flat_filter G (fun g' hg' => h1 g' (List.mem_cons_of_mem _ hg')) hu.2 k hk
      rw [withK] at this
      rw [this, List.filter_eq_nil_iff.2 (fun x hx => ?_), List.nil_append]
      rw [hg.2 x hx]
      have := hu.1 _ (List.mem_map.2 ⟨G[k], List.getElem_mem hk, rfl⟩)
      simp only [beq_iff_eq]
      omega
/-- The rows of a group, in whatever order they were sorted. -/
theorem runsK_perm {l m : List (List V)} (hs : l.Pairwise fun x y => 0 ≤ cmpR (f y) (f x)) (hp : l.Perm m) (k : Nat) (h : k < (runsK f l).length) (h2 : k < (keysL f m).length) :
    keyG f (runsK f l)[k] = (keysL f m)[k] ∧ (runsK f l)[k].Perm (withK f m (keysL f m)[k]) := by
  have e := runsK_canon f hs hp
  have e1 : (keysL f m)[k] = keyG f (runsK f l)[k] := by
    have : ((runsK f l).map (keyG f))[k]? = (keysL f m)[k]? := by rw [e]
    rw [List.getElem?_map, List.getElem?_eq_getElem h, List.getElem?_eq_getElem h2] at this
    injection this with this
    exact this.symm
  refine ⟨e1.symm, ?_⟩
  rw [e1]
  have := flat_filter (runsK f l) (runsK_one f l) (by rw [e]; exact canon_up cmpR_cmp _) k h
  rw [runsK_flat] at this
  have h3 : (withK f l (keyG f (runsK f l)[k])).Perm (withK f m (keyG f (runsK f l)[k])) := hp.filter _
  rw [this] at h3
  exact h3
/-- How many rows lie ahead of a group. -/
def posK (G : List (List (List V))) (k : Nat) : Nat := (G.take k).flatten.length
theorem posK_succ (G : List (List (List V))) {k : Nat} (h : k < G.length) : posK G (k + 1) = posK G k + G[k].length := by
  unfold posK
  rw [List.take_succ_eq_append_getElem h, List.flatten_append, List.length_append]
  simp
theorem posK_end (G : List (List (List V))) : posK G G.length = G.flatten.length := by unfold posK; rw [List.take_length]
theorem posK_le (G : List (List (List V))) (k : Nat) : posK G k ≤ G.flatten.length := by
  have : G.flatten = (G.take k).flatten ++ (G.drop k).flatten := by rw [← List.flatten_append, List.take_append_drop]
  unfold posK
  rw [this, List.length_append]
  omega
theorem flat_split (G : List (List (List V))) {k : Nat} (h : k < G.length) : G.flatten = (G.take k).flatten ++ (G[k] ++ (G.drop (k + 1)).flatten) := by
  rw [← List.flatten_cons, List.getElem_cons_drop, ← List.flatten_append, List.take_append_drop]
theorem posK_at (G : List (List (List V))) {k i : Nat} (h : k < G.length) (hi : i < G[k].length) (h2 : posK G k + i < G.flatten.length) : G.flatten[posK G k + i] = G[k][i] := by
  have e : G.flatten[posK G k + i]? = some G[k][i] := by
    rw [flat_split G h]
    unfold posK
    rw [List.getElem?_append_right (by omega), Nat.add_sub_cancel_left, List.getElem?_append_left hi, List.getElem?_eq_getElem hi]
  rw [List.getElem?_eq_getElem h2] at e
  injection e
theorem posK_cut (G : List (List (List V))) {k : Nat} (h : k < G.length) : (G.flatten.drop (posK G k)).take G[k].length = G[k] := by
  rw [flat_split G h]
  unfold posK
  rw [List.drop_left, List.take_left]
/-- Within a group the next row has the same key; at its end, another one. -/
theorem run_next {l : List (List V)} (hs : l.Pairwise fun x y => 0 ≤ cmpR (f y) (f x)) {k i : Nat} (hk : k < (runsK f l).length) (h1 : posK (runsK f l) k ≤ i) (h2 : i < posK (runsK f l) (k + 1)) (hi : i < l.length) :
    f l[i] = keyG f (runsK f l)[k] ∧ (∀ h : i + 1 < l.length, (cmpR (f l[i]) (f l[i + 1]) = 0 ↔ i + 1 < posK (runsK f l) (k + 1))) := by
  have hfl := runsK_flat f l
  have hone := runsK_one f l
  have hup : Up cmpR ((runsK f l).map (keyG f)) := by rw [runsK_canon f hs (List.Perm.refl l)]; exact canon_up cmpR_cmp _
  generalize runsK f l = G at *
  subst hfl
  rw [posK_succ G hk] at h2 ⊢
  obtain ⟨j, rfl⟩ : ∃ j, i = posK G k + j := ⟨i - posK G k, by omega⟩
  have hj : j < G[k].length := by omega
  have e1 : f G.flatten[posK G k + j] = keyG f G[k] := by
    rw [posK_at G hk hj hi]
    exact (hone _ (List.getElem_mem hk)).2 _ (List.getElem_mem hj)
  refine ⟨e1, fun h => ?_⟩
  by_cases hn : j + 1 < G[k].length
  · have e2 : f G.flatten[posK G k + j + 1] = keyG f G[k] := by
      have e3 := posK_at G hk (i := j + 1) hn (by omega)
      have e4 : posK G k + (j + 1) = posK G k + j + 1 := by omega
      simp only [e4] at e3
      rw [e3]
      exact (hone _ (List.getElem_mem hk)).2 _ (List.getElem_mem hn)
    rw [e1, e2, cmpR_cmp.self]
    exact ⟨fun _ => by omega, fun _ => rfl⟩
  · have hs2 := posK_succ G hk
    have hk2 : k + 1 < G.length := by
      by_cases e : k + 1 = G.length
      · have := posK_end G
        rw [← e] at this
        omega
      · omega
    have h0 : 0 < G[k + 1].length := by
      have := (hone _ (List.getElem_mem hk2)).1
      cases hg : G[k + 1] with
      | nil => exact absurd hg this
      | cons a r => simp
    have hlt := posK_le G (k + 2)
    rw [posK_succ G hk2] at hlt
    have e2 : f G.flatten[posK G k + j + 1] = keyG f G[k + 1] := by
      have e3 := posK_at G hk2 h0 (by omega)
      have e4 : posK G (k + 1) + 0 = posK G k + j + 1 := by omega
      simp only [e4] at e3
      rw [e3]
      exact (hone _ (List.getElem_mem hk2)).2 _ (List.getElem_mem h0)
    have hc : cmpR (keyG f G[k]) (keyG f G[k + 1]) < 0 := by
      have := (List.pairwise_iff_getElem.1 hup) k (k + 1) (by simpa using hk) (by simpa using hk2) (by omega)
      simpa using this
    rw [e1, e2]
    constructor
    · intro e; omega
    · intro e; omega
theorem run_jump {l : List (List V)} {k : Nat} (hk : k < (runsK f l).length) :
    (posK (runsK f l) (k + 1) < l.length → k + 1 < (runsK f l).length ∧ posK (runsK f l) (k + 1) < posK (runsK f l) (k + 2)) ∧ (posK (runsK f l) (k + 1) = l.length → k + 1 = (runsK f l).length) := by
  have hfl := runsK_flat f l
  have hone := runsK_one f l
  generalize runsK f l = G at *
  subst hfl
  have hpos : ∀ j (h : j < G.length), 0 < G[j].length := fun j h => by
    have := (hone _ (List.getElem_mem h)).1
    cases hg : G[j] with
    | nil => exact absurd hg this
    | cons a r => simp
  constructor
  · intro h
    have hk2 : k + 1 < G.length := by
      by_cases e : k + 1 = G.length
      · have := posK_end G
        rw [← e] at this
        omega
      · omega
    refine ⟨hk2, ?_⟩
    rw [posK_succ G hk2]
    have := hpos _ hk2
    omega
  · intro h
    by_cases e : k + 1 = G.length
    · exact e
    · have hk2 : k + 1 < G.length := by omega
      have h2 := posK_succ G hk2
      have := hpos _ hk2
      have h3 := posK_le G (k + 2)
      have e2 : k + 1 + 1 = k + 2 := rfl
      rw [e2] at h2
      omega
theorem runsK_start {l : List (List V)} : (0 < l.length → 0 < (runsK f l).length ∧ 0 < posK (runsK f l) 1) ∧ (l.length = 0 → (runsK f l).length = 0) := by
  cases l with
  | nil => exact ⟨fun h => absurd h (Nat.not_lt_zero _), fun _ => rfl⟩
  | cons x r =>
    obtain ⟨g, gs, h, -, -⟩ := runsK_head f (x := x) (r := r)
    refine ⟨fun _ => ?_, fun e => by simp at e⟩
    have hone := (runsK_one f (x :: r)) g (by rw [h]; exact List.mem_cons_self)
    rw [h]
    refine ⟨by simp, ?_⟩
    rw [posK_succ _ (by simp)]
    cases g with
    | nil => exact absurd rfl hone.1
    | cons a t => simp; omega
end
end Go.Proofs.YtmconajkgjfplaaGreat
end

/- Or. (Printed by mec.py.) -/
section
set_option linter.unusedVariables false
set_option linter.unusedSimpArgs false
namespace Go.Proofs.YtmconajkgjfplaaGreat
open Go.RowKit
set_option linter.unusedVariables false
set_option linter.unusedSimpArgs false

def toHD (v : Value) : HD := match v with
  | .slice a n c => ⟨a, n, c⟩
  | _ => ⟨none, 0, 0⟩
theorem OwnR.slices {lo : Nat} {w : World} {v : Value} {hs : List Value} {xs : List (List V)} (h : OwnR lo w v hs xs) : ∀ u ∈ hs, ∃ a n c, u = .slice a n c := by
  intro u hu
  obtain ⟨i, hi, rfl⟩ := List.getElem_of_mem hu
  obtain ⟨p, c, e⟩ := Own.slice (h.row i hi (by rw [← h.len]; exact hi))
  exact ⟨p, _, c, e⟩
theorem hd_map {hs : List Value} (h : ∀ u ∈ hs, ∃ a n c, u = Value.slice a n c) : (hs.map toHD).flatMap HD.enc = hs.flatMap vE := by
  induction hs with
  | nil => rfl
  | cons u r ih =>
    obtain ⟨a, n, c, rfl⟩ := h u List.mem_cons_self
    rw [List.map_cons, List.flatMap_cons, List.flatMap_cons, ih (fun u hu => h u (List.mem_cons_of_mem _ hu))]
    rfl
theorem OwnR.hd {lo : Nat} {w : World} {v : Value} {hs : List Value} {xs : List (List V)} (h : OwnR lo w v hs xs) : OwnHD lo w v (hs.map toHD) := by
  show w.ownsRow lo _ 1 v (hs.map toHD).length ((hs.map toHD).flatMap HD.enc)
  rw [List.length_map, hd_map h.slices]
  exact h.own
theorem OwnR.hdSl {lo : Nat} {w : World} {v : Value} {hs : List Value} {xs : List (List V)} (h : OwnR lo w v hs xs) : Sl (flat HD.enc) 1 lo w.heap.size w v (hs.map toHD) := Sl.ofOwn (fun _ => rfl) h.hd
/-- Two lists of rows, one behind the other. -/
theorem OwnR.cat {lo : Nat} {w w' : World} {v1 v2 v' : Value} {hs1 hs2 : List Value} {xs ys : List (List V)} (h1 : OwnR lo w v1 hs1 xs) (h2 : OwnR lo w v2 hs2 ys) (hB : Below w.heap.size w w') (hlo : lo ≤ w.heap.size) (ho : OwnHD w.heap.size w' v' (hs1.map toHD ++ hs2.map toHD)) : OwnR lo w' v' (hs1 ++ hs2) (xs ++ ys) := by
  have hsl : ∀ u ∈ hs1 ++ hs2, ∃ a n c, u = Value.slice a n c := fun u hu => (List.mem_append.1 hu).elim (h1.slices u) (h2.slices u)
  have hown : OwnH w.heap.size w' v' (hs1 ++ hs2) := by
    rw [← List.map_append] at ho
    have ho : w'.ownsRow w.heap.size _ 1 v' ((hs1 ++ hs2).map toHD).length (((hs1 ++ hs2).map toHD).flatMap HD.enc) := ho
    rw [hd_map hsl, List.length_map] at ho
    exact ho
  have hrow : ∀ i (h : i < (hs1 ++ hs2).length) (h2 : i < (xs ++ ys).length), OwnV lo w (hs1 ++ hs2)[i] (xs ++ ys)[i] := by
    intro i hi hj
    by_cases hil : i < hs1.length
    · rw [List.getElem_append_left hil, List.getElem_append_left (by rw [← h1.len]; exact hil)]
      exact h1.row i hil _
    · have e := h1.len
      rw [List.getElem_append_right (by omega), List.getElem_append_right (by omega)]
      simp only [e]
      rw [List.length_append] at hi hj
      exact h2.row (i - xs.length) (by omega) (by omega)
  refine ⟨Own.lower hown hlo, by rw [List.length_append, List.length_append, h1.len, h2.len], fun i hi hj => Own.kept (hrow i hi hj) hB, fun i hi k hk e => ?_⟩
  have hj : i < (xs ++ ys).length := by rw [List.length_append] at *; have := h1.len; have := h2.len; omega
  have := (Own.lt (hrow i hi hj) k hk).2
  have := (Own.lt hown k e).1
  omega
def orErr (ac : List S) (la : List (List V)) (bc : List S) (lb : List (List V)) : Int :=
  if mayRel ac la && mayRel bc lb && withinB ac bc && decide (ac.length = bc.length) then madeErr ac (la ++ lb.map fun x => pickL x (placesL ac bc)) else 2
set_option maxRecDepth 100000 in
set_option maxHeartbeats 4000000 in
theorem Or_any (lca hca lra hra lcb hcb lrb hrb : Nat) (ac bc : List S) (pa pb : Option Addr) (ca cb : Nat) (la lb : List (List V)) (lva lvb : Value) (w : World) (ha : Strs lca hca w (.slice pa ac.length ca) ac) (hha : hca ≤ w.heap.size) (hla : Rws lra hra w lva la) (hhla : hra ≤ w.heap.size) (hb : Strs lcb hcb w (.slice pb bc.length cb) bc) (hhb : hcb ≤ w.heap.size) (hlb : Rws lrb hrb w lvb lb) (hhlb : hrb ≤ w.heap.size) (hl : ac.length ≤ 100000000) (R : Ending → World → Prop)
    (hR : ∀ w' cv2 lv2 hs, Below w.heap.size w w' → OwnT w.heap.size w' cv2 (okL (orErr ac la bc lb) ac) → OwnR w.heap.size w' lv2 hs (okL (orErr ac la bc lb) (relCanon (la ++ lb.map fun x => pickL x (placesL ac bc)))) → R (.returned (.tuple #[.agg #[cv2, lv2], .int .i64 (orErr ac la bc lb)])) w') :
    Calls Tryz.prog 10 #[.agg #[.slice pa ac.length ca, lva], .agg #[.slice pb bc.length cb, lvb]] w R := by
  have HR := Lib.hid hR
  have Ha := Lib.hid ha
  have Hb := Lib.hid hb
  have Hla := Lib.hid hla
  have Hlb := Lib.hid hlb
  obtain ⟨av, av2, rfl, -, -, -, -⟩ := hla.form
  obtain ⟨bv, bv2, rfl, -, -, -, -⟩ := hlb.form
  have hal63 := ha.len
  have hbl63 := hb.len
  clear hR ha hb hla hlb
  obtain ⟨wa, ewa⟩ : ∃ x, x = w.alloc (.cells #[.slice pa ac.length ca, .slice av la.length av2] 25) := ⟨_, rfl⟩
  obtain ⟨wb, ewb⟩ : ∃ x, x = wa.alloc (.cells #[.slice pb bc.length cb, .slice bv lb.length bv2] 25) := ⟨_, rfl⟩
  obtain ⟨w2, ew2⟩ : ∃ x, x = wb.alloc (.cells #[.slice none 0 0, .slice none 0 0] 25) := ⟨_, rfl⟩
  have sa : wa.heap.size = w.heap.size + 1 := by rw [ewa]; simp
  have sb : wb.heap.size = w.heap.size + 1 + 1 := by rw [ewb]; simp [sa]
  have hBa : Below w.heap.size w wa := by rw [ewa]; exact alloc_below _ _
  have hBb : Below wa.heap.size wa wb := by rw [ewb]; exact alloc_below _ _
  have hBc : Below wb.heap.size wb w2 := by rw [ew2]; exact alloc_below _ _
  have hb1 : Blk wa w.heap.size [.slice pa ac.length ca, .slice av la.length av2] 25 := by rw [ewa]; exact Blk.new w [.slice pa ac.length ca, .slice av la.length av2] _ rfl
  have hb2 : Blk wb (w.heap.size + 1) [.slice pb bc.length cb, .slice bv lb.length bv2] 25 := by rw [ewb]; exact Blk.new wa [.slice pb bc.length cb, .slice bv lb.length bv2] _ sa.symm
  have hb3 : Blk w2 (w.heap.size + 1 + 1) [.slice none 0 0, .slice none 0 0] 25 := by rw [ew2]; exact Blk.new wb [.slice none 0 0, .slice none 0 0] _ sb.symm
  have hb1 := (hb1.below hBb hb1.lt).below hBc (by omega)
  have hb2 := hb2.below hBc hb2.lt
  have hB := hBa.trans ((hBb.mono hBa.size).trans (hBc.mono (by omega)))
  go_enter Tryz.func10, Tryz.ntmps10
  go_upto_region 1 with fail
  rw [← ewa, ← ewb, ← ew2]
  clear ewa ewb ew2 hBa hBb hBc sa sb
  have HB := Lib.hid hB
  have Hb1 := Lib.hid hb1
  have Hb2 := Lib.hid hb2
  have Hb3 := Lib.hid hb3
  have hz2 := hB.size
  have hl3 := hb3.lt
  clear hb1 hb2 hb3 hB
  have Ha2 := Lib.hid (Sl.below Ha.out Strs.loc HB.out hha)
  have Hb2c := Lib.hid (Sl.below Hb.out Strs.loc HB.out hhb)
  have Hla2 := Lib.hid (Sl.below Hla.out rowE_loc HB.out hhla)
  have Hlb2 := Lib.hid (Sl.below Hlb.out rowE_loc HB.out hhlb)
  clear Ha Hb Hla Hlb
  obtain ⟨c0, c1⟩ := Hb1.out.cells.c2
  obtain ⟨d0, d1⟩ := Hb2.out.cells.c2
  simp only [Nat.zero_add] at c1 d1
  go_wp2_with fail
  refine placesK_any lca hca lcb hcb ac bc _ _ w2 Ha2.out (by omega) Hb2c.out (by omega) (by omega) _ (fun w3 v3 ks hB3 ho3 hks => ?_)
  obtain ⟨p3, q3, rfl⟩ := Own.slice ho3
  have Hks := Lib.hid hks
  have Ho3 := Lib.hid ho3
  have HA3 := Lib.hid hB3
  have hz3 := hB3.size
  clear hB3 ho3 hks c0 c1 d0 d1
  go_upto_region 2 with fail
  have hBa := alloc_below w3 (.cells #[.slice p3 ks.length q3] 58)
  have hba := Blk.new w3 [.slice p3 ks.length q3] 58 rfl
  generalize w3.alloc (.cells #[.slice p3 ks.length q3] 58) = w4 at *
  have HB34 := Lib.hid hBa
  have Hb4 := Lib.hid hba
  have hz4 := hBa.size
  have hl4 := hba.lt
  have HA4 := Lib.hid (HA3.out.trans (hBa.mono hz3))
  obtain ⟨c0, c1⟩ := (Hb1.out.below HA4.out (by omega)).cells.c2
  simp only [Nat.zero_add] at c1
  clear hBa hba
  go_wp2_with fail
  refine May_any lra hra lca hca ac _ _ la _ w4 (Sl.below Ha2.out Strs.loc HA4.out (by omega)) (by omega) (Sl.below Hla2.out rowE_loc HA4.out (by omega)) (by omega) _ (fun w5 hB5 => ?_)
  have HB45 := Lib.hid hB5
  have hz5 := hB5.size
  have HA5 := Lib.hid (HA4.out.trans (hB5.mono (by omega)))
  clear hB5 c0 c1
  cases hm : mayRel ac la
  · have hbE := Hb3.out.below HA5.out hl3
    obtain ⟨e0, e1⟩ := hbE.cells.c2
    have f0 := hbE.free 0
    have f1 := hbE.free 1
    simp only [Nat.zero_add] at e1
    have he : orErr ac la bc lb = 2 := by unfold orErr; rw [hm]; rfl
    obtain ⟨t1, t2, t3, t4⟩ := relTail (pc := none) (pr := none) (qc := 0) (qr := 0) hbE (show w.heap.size ≤ w.heap.size + 1 + 1 by omega) (HB.out.trans (Below.mono HA5.out hz2)) (Own.nil _ _ _ _ _) (OwnR.nil _ _)
    have hr := HR.out _ _ _ [] t1 (by rw [he]; exact t2) (by rw [he]; exact t3)
    rw [he] at hr
    have Hr := Lib.hid hr
    have Ht := Lib.hid t4
    clear hm hbE hr t1 t2 t3 t4 he
    go_wp2_with fail
    exact ret_cell_tmp rfl rfl Ht.out rfl rfl Hr.out
  have Hm := Lib.hid hm
  clear hm
  obtain ⟨c0, c1⟩ := (Hb2.out.below HA5.out (by omega)).cells.c2
  simp only [Nat.zero_add] at c1
  go_wp2_with fail
  refine May_any lrb hrb lcb hcb bc _ _ lb _ w5 (Sl.below Hb2c.out Strs.loc HA5.out (by omega)) (by omega) (Sl.below Hlb2.out rowE_loc HA5.out (by omega)) (by omega) _ (fun w6 hB6 => ?_)
  have HB46 := Lib.hid (HB45.out.trans (hB6.mono (by omega)))
  have hz6 := hB6.size
  have HA6 := Lib.hid (HA5.out.trans (hB6.mono (by omega)))
  clear hB6 c0 c1
  cases hm : mayRel bc lb
  · have hbE := Hb3.out.below HA6.out hl3
    obtain ⟨e0, e1⟩ := hbE.cells.c2
    have f0 := hbE.free 0
    have f1 := hbE.free 1
    simp only [Nat.zero_add] at e1
    have he : orErr ac la bc lb = 2 := by unfold orErr; rw [hm, Hm.out]; rfl
    obtain ⟨t1, t2, t3, t4⟩ := relTail (pc := none) (pr := none) (qc := 0) (qr := 0) hbE (show w.heap.size ≤ w.heap.size + 1 + 1 by omega) (HB.out.trans (Below.mono HA6.out hz2)) (Own.nil _ _ _ _ _) (OwnR.nil _ _)
    have hr := HR.out _ _ _ [] t1 (by rw [he]; exact t2) (by rw [he]; exact t3)
    rw [he] at hr
    have Hr := Lib.hid hr
    have Ht := Lib.hid t4
    clear hm hbE hr t1 t2 t3 t4 he
    go_wp2_with fail
    exact ret_cell_tmp rfl rfl Ht.out rfl rfl Hr.out
  have Hmb := Lib.hid hm
  clear hm
  cases hw : withinB ac bc
  · have hbE := Hb3.out.below HA6.out hl3
    obtain ⟨e0, e1⟩ := hbE.cells.c2
    have f0 := hbE.free 0
    have f1 := hbE.free 1
    simp only [Nat.zero_add] at e1
    have he : orErr ac la bc lb = 2 := by unfold orErr; rw [hw, Hm.out, Hmb.out]; rfl
    obtain ⟨t1, t2, t3, t4⟩ := relTail (pc := none) (pr := none) (qc := 0) (qr := 0) hbE (show w.heap.size ≤ w.heap.size + 1 + 1 by omega) (HB.out.trans (Below.mono HA6.out hz2)) (Own.nil _ _ _ _ _) (OwnR.nil _ _)
    have hr := HR.out _ _ _ [] t1 (by rw [he]; exact t2) (by rw [he]; exact t3)
    rw [he] at hr
    have Hr := Lib.hid hr
    have Ht := Lib.hid t4
    clear hw hbE hr t1 t2 t3 t4 he
    go_wp2_with fail
    exact ret_cell_tmp rfl rfl Ht.out rfl rfl Hr.out
  have Hw := Lib.hid hw
  obtain rfl := Hks.out hw
  clear hw Hks
  obtain ⟨c0, c1⟩ := (Hb1.out.below HA6.out (by omega)).cells.c2
  obtain ⟨d0, d1⟩ := (Hb2.out.below HA6.out (by omega)).cells.c2
  simp only [Nat.zero_add] at c1 d1
  by_cases hle : ac.length = bc.length
  case neg =>
    have g2 : ((ac.length : Int) != (bc.length : Int)) = true := by simp; omega
    have hbE := Hb3.out.below HA6.out hl3
    obtain ⟨e0, e1⟩ := hbE.cells.c2
    have f0 := hbE.free 0
    have f1 := hbE.free 1
    simp only [Nat.zero_add] at e1
    have he : orErr ac la bc lb = 2 := by unfold orErr; rw [decide_eq_false hle]; simp
    obtain ⟨t1, t2, t3, t4⟩ := relTail (pc := none) (pr := none) (qc := 0) (qr := 0) hbE (show w.heap.size ≤ w.heap.size + 1 + 1 by omega) (HB.out.trans (Below.mono HA6.out hz2)) (Own.nil _ _ _ _ _) (OwnR.nil _ _)
    have hr := HR.out _ _ _ [] t1 (by rw [he]; exact t2) (by rw [he]; exact t3)
    rw [he] at hr
    have Hr := Lib.hid hr
    have Ht := Lib.hid t4
    clear hle hbE hr t1 t2 t3 t4 he
    go_wp2_with fail
    exact ret_cell_tmp rfl rfl Ht.out rfl rfl Hr.out
  have Hle : Hid (ac.length = bc.length) := Lib.hid hle
  have g2 : ((ac.length : Int) != (bc.length : Int)) = false := by simp; omega
  have he : orErr ac la bc lb = madeErr ac (la ++ lb.map fun x => pickL x (placesL ac bc)) := by unfold orErr; rw [Hm.out, Hmb.out, Hw.out, decide_eq_true hle]; rfl
  rw [he] at HR
  clear he hle
  have hmla := (may_many Hm.out).1
  have hmlb := (may_many Hmb.out).1
  have hmca := (may_many Hm.out).2
  go_wp2_with fail
  refine gather_any lrb hrb lb _ 32 #[.pointer (some ⟨w3.heap.size, 0, none⟩)] (fun x => some (pickL x (placesL ac bc))) w6 (Sl.below Hlb2.out rowE_loc HA6.out (by omega)) (by omega) (by omega) (enters_of Tryz.func32 (by kernel_rfl) rfl) (fun k hk xv w' R' hB' hx' hR' => ?_) _ (fun w7 v7 hs7 hB7 h7 => ?_)
  · have hz' := hB'.size
    have hBw := HB46.out.trans (hB'.mono (by omega))
    refine Or1_any lrb hrb w2.heap.size w3.heap.size w3.heap.size lb[k] (placesL ac bc) xv _ w' hx' (by omega) (Sl.below (OwnI.sl Ho3.out) Ints.loc (HB34.out.trans (hBw.mono (by omega))) (Nat.le_refl _)) (by omega) (Hb4.out.below hBw hl4) (by rw [may_len Hmb.out _ (List.getElem_mem hk)]; exact places_ok Hw.out) (by unfold placesL; rw [List.length_map]; omega) R' (fun w'' yv hB'' ho'' => ?_)
    obtain ⟨a, c, e⟩ := Own.slice ho''
    exact hR' w'' yv hB'' (fun _ => ho'') ⟨a, _, c, e⟩
  rw [map_fm] at h7
  have HB67 := Lib.hid hB7
  have hz7 := hB7.size
  have HA7 := Lib.hid (HA6.out.trans (hB7.mono (by omega)))
  have H7 := Lib.hid h7
  obtain ⟨p7, q7, e7⟩ := Own.slice h7.own
  have Hb17 := Lib.hid (Hb1.out.below HA7.out (by omega))
  have Hb37 := Lib.hid (Hb3.out.below HA7.out hl3)
  have hl17 : w.heap.size < w7.heap.size := by omega
  have hl37 : w.heap.size + 1 + 1 < w7.heap.size := by omega
  have Hll7 : Hid (hs7.length = lb.length) := Lib.hid (by rw [h7.len, List.length_map])
  clear hB7 h7 c0 c1 d0 d1
  subst e7
  go_upto_region 5 with fail
  have hS0 : Only (fun z => z = w.heap.size + 1 + 1 ∨ w6.heap.size ≤ z) w7 w7.drew := Only.drew _
  refine wp_region_held_drew (S := fun w' => Only (fun z => z = w.heap.size + 1 + 1 ∨ w6.heap.size ≤ z) w7 w') (by kernel_rfl) hS0 (fun hHeld => ?_)
  refine wpAnyH_take (i := 0) (v := .pointer (some ⟨w.heap.size, 0, none⟩)) rfl (by kernel_rfl) (by kernel_rfl) (by kernel_rfl) (fun _ _ _ h => h) (Or.inl ⟨by rfl, ?_⟩) hHeld ?_
  · intro w' hSw; go_simp
  try simp only [Act.put, List.getElem_toArray, List.getElem_cons_succ, List.getElem_cons_zero, List.setIfInBounds_toArray, List.set_cons_zero, List.set_cons_succ]
  refine wpAnyH_take (i := 1) (v := .slice pa ac.length ca) rfl (by kernel_rfl) (by kernel_rfl) (by kernel_rfl) (fun _ _ _ h => h) (Or.inl ⟨by rfl, ?_⟩) hHeld ?_
  · intro w' hSw; obtain ⟨z0, z1⟩ := (hSw.blk Hb17.out (by omega)).cells.c2; simp only [Nat.zero_add] at z1; go_simp
  try simp only [Act.put, List.getElem_toArray, List.getElem_cons_succ, List.getElem_cons_zero, List.setIfInBounds_toArray, List.set_cons_zero, List.set_cons_succ]
  refine wpAnyH_take (i := 2) (v := .pointer (some ⟨w.heap.size, 1, none⟩)) rfl (by kernel_rfl) (by kernel_rfl) (by kernel_rfl) (fun _ _ _ h => h) (Or.inl ⟨by rfl, ?_⟩) hHeld ?_
  · intro w' hSw; go_simp
  try simp only [Act.put, List.getElem_toArray, List.getElem_cons_succ, List.getElem_cons_zero, List.setIfInBounds_toArray, List.set_cons_zero, List.set_cons_succ]
  refine wpAnyH_take (i := 3) (v := .slice av la.length av2) rfl (by kernel_rfl) (by kernel_rfl) (by kernel_rfl) (fun _ _ _ h => h) (Or.inl ⟨by rfl, ?_⟩) hHeld ?_
  · intro w' hSw; obtain ⟨z0, z1⟩ := (hSw.blk Hb17.out (by omega)).cells.c2; simp only [Nat.zero_add] at z1; go_simp
  try simp only [Act.put, List.getElem_toArray, List.getElem_cons_succ, List.getElem_cons_zero, List.setIfInBounds_toArray, List.set_cons_zero, List.set_cons_succ]
  refine wpAnyH_take (i := 5) (v := .slice p7 hs7.length q7) rfl (by kernel_rfl) (by kernel_rfl) (by kernel_rfl) (fun _ _ _ h => h) (Or.inl ⟨by rfl, ?_⟩) hHeld ?_
  · intro w' hSw; go_simp
  try simp only [Act.put, List.getElem_toArray, List.getElem_cons_succ, List.getElem_cons_zero, List.setIfInBounds_toArray, List.set_cons_zero, List.set_cons_succ]
  refine wpAnyH_ready (rs := [4]) (by kernel_rfl) (by simp) ?_
  refine allCall (f := 28) (args := #[.slice av la.length av2, .func (.func 34) #[] #[]]) rfl (by kernel_rfl) (by kernel_rfl) ?_ AllReadyH.nil
  have HAd : Hid (Below w2.heap.size w2 w7.drew) := Lib.hid HA7.out.drew
  refine gather_any lra hra la _ 34 #[] some w7.drew (Sl.below Hla2.out rowE_loc HAd.out (by omega)) (by show hra ≤ w7.heap.size; omega) (by omega) (enters_of Tryz.func34 (by kernel_rfl) rfl) (fun k hk xv w' R' hB' hx' hR' => ?_) _ (fun w8 v8 hs8 hB8 h8 => ?_)
  · have hz' : w7.heap.size ≤ w'.heap.size := hB'.size
    refine own_any lra hra la[k] xv w' hx' (by omega) (by rw [may_len Hm.out _ (List.getElem_mem hk)]; omega) R' (fun w'' yv hB'' ho'' => ?_)
    obtain ⟨a, c, e⟩ := Own.slice ho''
    exact hR' w'' yv hB'' (fun _ => ho'') ⟨a, _, c, e⟩
  rw [gather_own] at h8
  obtain ⟨p8, q8, e8⟩ := Own.slice h8.own
  have hB78 : Below w7.heap.size w7 w8 := ((Below.refl _ _).drew).trans hB8
  have HB78 := Lib.hid hB78
  have hz8 := hB78.size
  have H8 : Hid (OwnR w6.heap.size w8 v8 hs8 la) := Lib.hid (h8.lower (by show w6.heap.size ≤ w7.heap.size; omega))
  have H78 : Hid (OwnR w6.heap.size w8 (.slice p7 hs7.length q7) hs7 (lb.map fun x => pickL x (placesL ac bc))) := Lib.hid (H7.out.kept hB78)
  have Hll8 : Hid (hs8.length = la.length) := Lib.hid h8.len
  subst e8
  have hH2 : Only (fun z => z = w.heap.size + 1 + 1 ∨ w6.heap.size ≤ z) w7 w8 := Below.only hB78
  refine ⟨_, rfl, hH2, ?_⟩
  clear hHeld hB8 h8 hB78
  have hHeld := hH2
  clear hH2
  try simp only [Act.put, List.getElem_toArray, List.getElem_cons_succ, List.getElem_cons_zero, List.setIfInBounds_toArray, List.set_cons_zero, List.set_cons_succ]
  have hB9 := alloc_below w8 (.cells #[.slice p8 hs8.length q8, .slice p7 hs7.length q7] 23)
  have hc9 := CellsAt.new w8 [.slice p8 hs8.length q8, .slice p7 hs7.length q7] 23
  have hl9 : w8.heap.size < (w8.alloc (.cells #[.slice p8 hs8.length q8, .slice p7 hs7.length q7] 23)).heap.size := by simp
  refine wpAnyH_ready (rs := [6]) (by kernel_rfl) (by simp) ?_
  refine allVal (v := .slice (some ⟨w8.heap.size, 0, none⟩) 2 2) (w' := w8.alloc (.cells #[.slice p8 hs8.length q8, .slice p7 hs7.length q7] 23)) rfl (by kernel_rfl) (by go_simp) (hHeld.trans (Below.only hB9)) ?_ AllReadyH.nil
  have hH2 : Only (fun z => z = w.heap.size + 1 + 1 ∨ w6.heap.size ≤ z) w7 _ := hHeld.trans (Below.only hB9)
  change CellsAt (w8.alloc (.cells #[.slice p8 hs8.length q8, .slice p7 hs7.length q7] 23)) _ _ _ at hc9
  generalize w8.alloc (.cells #[.slice p8 hs8.length q8, .slice p7 hs7.length q7] 23) = w9 at *
  have HB9 := Lib.hid hB9
  have Hc9 := Lib.hid hc9
  have hz9 := hB9.size
  have H8' := Lib.hid (H8.out.kept hB9)
  have H7' := Lib.hid (H78.out.kept hB9)
  clear hHeld hB9 hc9 H8 H78
  have hHeld := hH2
  clear hH2
  try simp only [Act.put, List.getElem_toArray, List.getElem_cons_succ, List.getElem_cons_zero, List.setIfInBounds_toArray, List.set_cons_zero, List.set_cons_succ]
  refine wpAnyH_ready (rs := [7]) (by kernel_rfl) (by simp) ?_
  refine allCall (f := 33) (args := #[.slice (some ⟨w8.heap.size, 0, none⟩) 2 2]) rfl (by kernel_rfl) (by kernel_rfl) ?_ AllReadyH.nil
  refine ConcatHdr_any w6.heap.size w9.heap.size w6.heap.size w9.heap.size w8.heap.size (hs8.map toHD) (hs7.map toHD) _ _ w9 (OwnR.hdSl H8'.out) (Nat.le_refl _) (OwnR.hdSl H7'.out) (Nat.le_refl _) Hc9.out hl9 (by rw [List.length_map, Hll8.out]; omega) (by rw [List.length_map, Hll7.out]; omega) _ (fun w10 v10 hB10 ho10 => ?_)
  have hcat := OwnR.cat H8'.out H7'.out hB10 (by omega) ho10
  obtain ⟨p10, q10, e10⟩ := Own.slice ho10
  have HB10 := Lib.hid hB10
  have H10 := Lib.hid hcat
  have hz10 := hB10.size
  have HB7_10 := Lib.hid (HB78.out.trans ((HB9.out.trans (hB10.mono (by omega))).mono (by omega)))
  subst e10
  have hH2 : Only (fun z => z = w.heap.size + 1 + 1 ∨ w6.heap.size ≤ z) w7 w10 := Below.only HB7_10.out
  refine ⟨_, rfl, hH2, ?_⟩
  clear hHeld hB10 ho10 hcat
  have hHeld := hH2
  clear hH2
  try simp only [Act.put, List.getElem_toArray, List.getElem_cons_succ, List.getElem_cons_zero, List.setIfInBounds_toArray, List.set_cons_zero, List.set_cons_succ]
  refine wpAnyH_ready (rs := [8]) (by kernel_rfl) (by simp) ?_
  refine allCall (f := 27) (args := #[.slice pa ac.length ca, .slice p10 (hs8.map toHD ++ hs7.map toHD).length q10]) rfl (by kernel_rfl) (by kernel_rfl) ?_ AllReadyH.nil
  have HA10 := Lib.hid (HA7.out.trans (HB7_10.out.mono (by omega)))
  refine madeK_any w6.heap.size lca hca ac _ (la ++ lb.map fun x => pickL x (placesL ac bc)) _ _ w10 (Sl.below Ha2.out Strs.loc HA10.out (by omega)) (by omega) (by omega) H10.out (by rw [List.length_append, List.length_map]; omega) _ (fun w11 cv7 lv7 hs11 hB11 hz11 hT7 hO7 => ?_)
  generalize hE : madeErr ac (la ++ lb.map fun x => pickL x (placesL ac bc)) = err at *
  generalize okL err ac = oc at *
  generalize okL err (relCanon (la ++ lb.map fun x => pickL x (placesL ac bc))) = ol at *
  obtain ⟨p7', q7', rfl⟩ := Own.slice hT7
  obtain ⟨p8', q8', e8⟩ := Own.slice hO7.own
  rw [hO7.len] at e8
  subst e8
  have HA6' := HA6.out
  have hB6_11 : Below w6.heap.size w6 w11 := (HB67.out.trans (HB7_10.out.mono (by omega))).trans hB11
  have hO711 : Only (fun z => z = w.heap.size + 1 + 1 ∨ w6.heap.size ≤ z) w7 w11 → True := fun _ => trivial
  have hb7 := (Hb3.out.below HA6.out hl3).below hB6_11 (by omega)
  obtain ⟨e0, e1⟩ := hb7.cells.c2
  have f0 := hb7.free 0
  have f1 := hb7.free 1
  simp only [Nat.zero_add] at e1
  have hA11 := HA6.out.trans (hB6_11.mono (by omega))
  obtain ⟨t1, t2, t3, t4⟩ := relTail hb7 (show w.heap.size ≤ w.heap.size + 1 + 1 by omega) (HB.out.trans (hA11.mono hz2)) (Own.lower hT7 (by omega)) (hO7.lower (by omega))
  have hr := HR.out _ _ _ _ t1 t2 t3
  have Hr := Lib.hid hr
  have Ht := Lib.hid t4
  have Hbl := Lib.hid (hb7.lt)
  have hH2 : Only (fun z => z = w.heap.size + 1 + 1 ∨ w6.heap.size ≤ z) w7 w11 := (Below.only HB7_10.out).trans ((Below.onlyGe hB11).mono (fun _ _ h => .inr h))
  refine ⟨_, rfl, hH2, ?_⟩
  clear hHeld hr t1 t2 t3 t4 hb7 hB6_11 hT7 hO7 hB11 hA11 hO711 HA6'
  have hHeld := hH2
  clear hH2
  try simp only [Act.put, List.getElem_toArray, List.getElem_cons_succ, List.getElem_cons_zero, List.setIfInBounds_toArray, List.set_cons_zero, List.set_cons_succ]
  refine wpAnyH_take (i := 9) (v := .agg #[.slice p7' oc.length q7', .slice p8' ol.length q8']) rfl (by kernel_rfl) (by kernel_rfl) (by kernel_rfl) (fun _ _ _ h => h) (Or.inl ⟨by rfl, ?_⟩) hHeld ?_
  · intro w' hSw; go_simp
  try simp only [Act.put, List.getElem_toArray, List.getElem_cons_succ, List.getElem_cons_zero, List.setIfInBounds_toArray, List.set_cons_zero, List.set_cons_succ]
  refine wpAnyH_take (i := 10) (v := .int .i64 err) rfl (by kernel_rfl) (by kernel_rfl) (by kernel_rfl) (fun _ _ _ h => h) (Or.inl ⟨by rfl, ?_⟩) hHeld ?_
  · intro w' hSw; go_simp
  try simp only [Act.put, List.getElem_toArray, List.getElem_cons_succ, List.getElem_cons_zero, List.setIfInBounds_toArray, List.set_cons_zero, List.set_cons_succ]
  have hHeld2 := (hHeld.trans (Only.setCell (A := fun z => z = w.heap.size + 1 + 1 ∨ w6.heap.size ≤ z) w11 (p := ⟨w.heap.size + 1 + 1, 0, none⟩) (.inl rfl) (.slice p7' oc.length q7'))).trans (Only.setCell (A := fun z => z = w.heap.size + 1 + 1 ∨ w6.heap.size ≤ z) _ (p := ⟨w.heap.size + 1 + 1, 1, none⟩) (.inl rfl) (.slice p8' ol.length q8'))
  refine wpAnyH_ready (rs := [11]) (by kernel_rfl) (by simp) ?_
  refine allSkip (w' := (w11.setCell ⟨w.heap.size + 1 + 1, 0, none⟩ (.slice p7' oc.length q7')).setCell ⟨w.heap.size + 1 + 1, 1, none⟩ (.slice p8' ol.length q8')) rfl (by kernel_rfl) ?_ hHeld2 ?_ AllReadyH.nil
  · go_simp
  try simp only [Act.put, List.getElem_toArray, List.getElem_cons_succ, List.getElem_cons_zero, List.setIfInBounds_toArray, List.set_cons_zero, List.set_cons_succ]
  clear hHeld
  have hHeld := hHeld2
  clear hHeld2
  refine wpAnyH_take (i := 12) (v := .int .i64 err) rfl (by kernel_rfl) (by kernel_rfl) (by kernel_rfl) (fun _ _ _ h => h) (Or.inl ⟨by rfl, ?_⟩) hHeld ?_
  · intro w' hSw; go_simp
  try simp only [Act.put, List.getElem_toArray, List.getElem_cons_succ, List.getElem_cons_zero, List.setIfInBounds_toArray, List.set_cons_zero, List.set_cons_succ]
  refine wpAnyH_done (by kernel_rfl) ?_ _
  clear hHeld
  go_wp2_with fail
  exact ret_cell_tmp rfl rfl Ht.out rfl rfl Hr.out
end Go.Proofs.YtmconajkgjfplaaGreat
end

/- A range over a function: the statement, and a round of it, in the plain walk. -/
section
set_option linter.unusedVariables false
set_option linter.unusedSimpArgs false
namespace Go.Proofs.YtmconajkgjfplaaGreat
open Go.RowKit

section
variable {P : Program}
/-- A loop's record. -/
def recL (fn : FuncId) (tmps : Array Value) (ps : Array Tmp) (assign body : Code) (D : Nat) (st : LoopState) (pe : Option Code) : Loop := { state := st, pending := pe, fn, tmps, params := ps, assign, body, defers := D }
def markD (D : Nat) : Deferred := { target := .collected D, args := #[] }
theorem wp_rangeFunc {g : Operand} {ps : Array Tmp} {assign body : Code} {Q : Exit → Act → World → Prop} {a : Act} {w : World} {gf : Nat} {lb : Array Value} (n : Nat)
    (hg : a.eval g = .func (.func gf) #[] lb) (eg : ∀ args w, (callFunc gf args).run P w = .ok (.enter gf args) w)
    (h : ∀ fn, CallsIn Fence.wide n P gf (#[.func (.yield (w.heap.size + 1)) #[] #[]] ++ lb)
      ((w.alloc (.deferred (some []))).alloc (.loop (recL fn a.tmps ps assign body w.heap.size .ready none)))
      (fun e W2 => (∃ v, e = .returned v) ∧ ∃ st pe, st ≠ .busy ∧ W2.heap[w.heap.size + 1]? = some (.loop (recL fn a.tmps ps assign body w.heap.size st pe)) ∧
        (match pe with
         | none => Q .normal { a with defers := markD w.heap.size :: a.defers } (W2.putObj (w.heap.size + 1) (.loop (recL fn a.tmps ps assign body w.heap.size .exhausted none)))
         | some c => c.wp P Q { a with defers := markD w.heap.size :: a.defers } (W2.putObj (w.heap.size + 1) (.loop (recL fn a.tmps ps assign body w.heap.size .exhausted (some c))))))) :
    (Code.rangeFunc g ps assign body).wp P Q a w := by
  refine (wpIn_wide (n := n + 1)).1 (wpIn_rangeFunc ?_)
  intro fn hfn
  refine ⟨w.heap.size + 1, [markD w.heap.size], ((w.alloc (.deferred (some []))).alloc (.loop (recL fn a.tmps ps assign body w.heap.size .ready none))), { target := .fn (.func gf) lb, args := #[.func (.yield (w.heap.size + 1)) #[] #[]] }, ((w.alloc (.deferred (some []))).alloc (.loop (recL fn a.tmps ps assign body w.heap.size .ready none))), gf,
    #[.func (.yield (w.heap.size + 1)) #[] #[]] ++ lb, ((w.alloc (.deferred (some []))).alloc (.loop (recL fn a.tmps ps assign body w.heap.size .ready none))), run_enterLoop_outer fn a.tmps ps assign body, ?_, ?_, ?_, fun _ => by omega, ?_⟩
  · simp only [resolve, hg]
    simp [go_sem]
  · intro f' hf'
    trivial
  · simp [invoke, go_sem, eg]
  · refine (h fn).mono ?_
    rintro e W2 ⟨⟨v, rfl⟩, st, pe, hst, hl, hq⟩
    refine ⟨pe, _, run_endLoop hl hst, ?_⟩
    cases pe with
    | none => exact hq
    | some c => exact wpIn_wide.2 hq

/-- One round. -/
theorem yieldAt_rec {l : Nat} {fn : FuncId} {tmps : Array Value} {ps : Array Tmp} {assign body : Code} {D : Nat} {W : World} {xs : Array Value} {R : Ending → World → Prop} {n : Nat}
    (hl : W.heap[l]? = some (.loop (recL fn tmps ps assign body D .ready none))) (hs : xs.size = ps.size)
    (h : assign.wpIn (Fence.wide.inRound l) n P (Exit.then (fun a₁ w₁ => w₁.heap[l]? = some (.loop (recL fn tmps ps assign body D .ready none)) ∧
      body.wpIn (Fence.wide.inRound l) n P (roundPost P l R) a₁ (w₁.putObj l (.loop (recL fn tmps ps assign body D .busy none)))) (fun _ _ _ => False))
      { tmps := (ps.zip xs).foldl (fun t (p, v) => t.setIfInBounds p v) tmps, defers := [] } W) :
    YieldAt Fence.wide n P l xs W R := by
  have hy := run_yield (P := P) (args := xs) hl hs
  refine ⟨fn, _, assign, body, hy, roundIn_of_wpIn trivial (wpIn_mono h ?_)⟩
  rintro e a1 w1 hq
  cases e with
  | normal =>
    obtain ⟨hl1, hb⟩ := hq
    exact ⟨_, run_beginRound hl1 rfl, hb⟩
  | exit id => exact hq.elim
  | goto t => exact hq.elim
  | ret => exact hq.elim
  | panic c => exact hq.elim
  | outgrown => exact hq.elim
/-- The end of a round that goes on. -/
theorem roundPost_normal {l : Nat} {fn : FuncId} {tmps : Array Value} {ps : Array Tmp} {assign body : Code} {D : Nat} {W : World} {R : Ending → World → Prop} {a : Act}
    (hl : W.heap[l]? = some (.loop (recL fn tmps ps assign body D .busy none)))
    (h : R (.returned (.bool true)) (W.putObj l (.loop (recL fn tmps ps assign body D .ready none)))) : roundPost P l R .normal a W :=
  ⟨_, _, run_endRound none hl, h⟩
/-- The end of a round that leaves the function. -/
theorem roundPost_ret {l : Nat} {fn : FuncId} {tmps : Array Value} {ps : Array Tmp} {assign body : Code} {D : Nat} {W : World} {R : Ending → World → Prop} {a : Act}
    (hl : W.heap[l]? = some (.loop (recL fn tmps ps assign body D .busy none)))
    (h : R (.returned (.bool false)) (W.putObj l (.loop (recL fn tmps ps assign body D .done (some .ret))))) : roundPost P l R .ret a W :=
  ⟨_, _, run_endRound (some .ret) hl, h⟩
end
end Go.Proofs.YtmconajkgjfplaaGreat
end

/- Rounds of a range over a function, for other texts; a region of a round that draws its order. -/
section
set_option linter.unusedVariables false
set_option linter.unusedSimpArgs false
namespace Go.Proofs.YtmconajkgjfplaaGreat
open Go.RowKit Go.Shelf
attribute [local go_sem] Oper.semAt_some

/-- An append, in a fenced walk. -/
theorem AtApp.goIn {P : Program} {F : Fence} {n : Nat} {w : World} {ops : Array Oper} {rest : List Oper} {o : Oper} {a : Act} {Q : Exit → Act → World → Prop} {s x : Operand} {t tx : TypeId} {v' : Value} {w' : World} {sv xv : Value}
    (hrun : (Builtin.append_ #[t, tx] o.type #[sv, xv]).run P w = .ok v' w') (hgd : o.guard = none) (ho : o.op = .call { callee := .builtin .append, args := #[s, x], argTypes := #[t, tx] }) (hs : a.eval s = sv) (hx : a.eval x = xv)
    (hK : wpListIn F n P ops Q rest (a.put o.dst v') w') : AtApp (wpListIn F n P ops Q (o :: rest) a w) := by
  refine wpListIn_plain hgd fun K hK' => ?_
  unfold Oper.wpIn
  refine ⟨by simp [Oper.about, ho, resolve, Target.leads, Sem.run_pure], ?_⟩
  rw [Oper.semAt_plain F _ _ (by rw [ho]; intro c hc'; cases hc')]
  simp [execOp, ho, resolve, invoke, builtin, hs, hx, hrun, Result.andThen]
  exact hK' _ _ hK
/-- Block l holds o. -/
def HeapAt (w : World) (l : Nat) (o : Obj) : Prop := w.heap[l]? = some o
/-- The statement, its record under a name. -/
theorem wp_rangeFuncR {P : Program} {g : Operand} {ps : Array Tmp} {assign body : Code} {Q : Exit → Act → World → Prop} {a : Act} {w : World} {gf : Nat} {lb : Array Value} (n : Nat)
    (hg : a.eval g = .func (.func gf) #[] lb) (eg : ∀ args w, (callFunc gf args).run P w = .ok (.enter gf args) w)
    (h : ∀ fn (RL : LoopState → Option Code → Loop), RL = recL fn a.tmps ps assign body w.heap.size → CallsIn Fence.wide n P gf (#[.func (.yield (w.heap.size + 1)) #[] #[]] ++ lb)
      ((w.alloc (.deferred (some []))).alloc (.loop (RL .ready none)))
      (fun e W2 => (∃ v, e = .returned v) ∧ ∃ st pe, st ≠ .busy ∧ W2.heap[w.heap.size + 1]? = some (.loop (RL st pe)) ∧
        (match pe with
         | none => Q .normal { a with defers := markD w.heap.size :: a.defers } (W2.putObj (w.heap.size + 1) (.loop (RL .exhausted none)))
         | some c => c.wp P Q { a with defers := markD w.heap.size :: a.defers } (W2.putObj (w.heap.size + 1) (.loop (RL .exhausted (some c))))))) :
    (Code.rangeFunc g ps assign body).wp P Q a w := wp_rangeFunc n hg eg (fun fn => h fn _ rfl)
theorem yieldAt_recR {P : Program} {RL : LoopState → Option Code → Loop} {l : Nat} {fn : FuncId} {tmps : Array Value} {ps : Array Tmp} {assign body : Code} {D : Nat} {W : World} {xs : Array Value} {R : Ending → World → Prop} {n : Nat}
    (hRL : RL = recL fn tmps ps assign body D) (hl : W.heap[l]? = some (.loop (RL .ready none))) (hs : xs.size = ps.size)
    (h : assign.wpIn (Fence.wide.inRound l) n P (Exit.then (fun a₁ w₁ => HeapAt w₁ l (.loop (RL .ready none)) ∧
      body.wpIn (Fence.wide.inRound l) n P (roundPost P l R) a₁ (w₁.putObj l (.loop (RL .busy none)))) (fun _ _ _ => False))
      { tmps := (ps.zip xs).foldl (fun t (p, v) => t.setIfInBounds p v) tmps, defers := [] } W) :
    YieldAt Fence.wide n P l xs W R := by subst hRL; exact yieldAt_rec hl hs (wpIn_mono h (fun e a w h => by cases e <;> first | exact ⟨h.1, h.2⟩ | exact h))
theorem roundPost_normalR {P : Program} {RL : LoopState → Option Code → Loop} {l : Nat} {fn : FuncId} {tmps : Array Value} {ps : Array Tmp} {assign body : Code} {D : Nat} {W : World} {R : Ending → World → Prop} {a : Act}
    (hRL : RL = recL fn tmps ps assign body D) (hl : W.heap[l]? = some (.loop (RL .busy none)))
    (h : R (.returned (.bool true)) (W.putObj l (.loop (RL .ready none)))) : roundPost P l R .normal a W := by subst hRL; exact roundPost_normal hl h

section
variable {P : Program} {ops : Array Oper} {Q : Exit → Act → World → Prop} {S : World → Prop} {l n : Nat}
end
end Go.Proofs.YtmconajkgjfplaaGreat
end

/- The iterator agree: those of sorted rows that begin with some values. (Printed by med.py.) -/
section
set_option linter.unusedVariables false
set_option linter.unusedSimpArgs false
namespace Go.Proofs.YtmconajkgjfplaaGreat
open Go.RowKit Go.Shelf
set_option linter.unusedVariables false
set_option linter.unusedSimpArgs false
attribute [local go_sem] Oper.semAt_some

/-! ### a region of an iterator that draws its order -/
section
variable {P : Program} {ops : Array Oper} {Q : Exit → Act → World → Prop} {n : Nat}
theorem opValIn {o : Oper} {a : Act} {w : World} {K : Act → World → Prop} {v : Value} {w' : World} (h : (execOp a.eval o).run P w = .ok (.value v) w') (hK : K (a.put o.dst v) w') : Oper.wpIn Fence.wide n P o a w K Q := by
  refine ⟨fun _ _ => trivial, ?_⟩
  show Oper.uponIn _ _ _ _ _ _ _ ((Oper.semAt none a.eval o).run P w)
  rw [Oper.semAt_none, h]
  exact hK
theorem opCallIn {o : Oper} {a : Act} {w : World} {K : Act → World → Prop} {f : FuncId} {args : Array Value} (h : (execOp a.eval o).run P w = .ok (.enter f args) w) (hc : Calls P f args w (fun e w' => ∃ v, e = .returned v ∧ K (a.put o.dst v) w')) : Oper.wpIn Fence.wide n P o a w K Q := by
  refine ⟨fun _ _ => trivial, ?_⟩
  show Oper.uponIn _ _ _ _ _ _ _ ((Oper.semAt none a.eval o).run P w)
  rw [Oper.semAt_none, h]
  refine ⟨fun h => (by cases h), callsIn_wide.2 (hc.mono ?_)⟩
  rintro e w' ⟨v, rfl, hk⟩
  exact hk
theorem opYieldIn {o : Oper} {a : Act} {w : World} {K : Act → World → Prop} {l : Nat} {fn : FuncId} {tmps : Array Value} {assign body : Code} {R : Ending → World → Prop} {m : Nat} (hn : n - 1 = m) (h : (execOp a.eval o).run P w = .ok (.round l fn tmps assign body) w) (hr : RoundIn Fence.wide m P l fn tmps assign body w R)
    (hK : ∀ e w', R e w' → ∃ v, e = .returned v ∧ K (a.put o.dst v) w') : Oper.wpIn Fence.wide n P o a w K Q := by
  subst hn
  refine ⟨fun _ _ => trivial, ?_⟩
  show Oper.uponIn _ _ _ _ _ _ _ ((Oper.semAt none a.eval o).run P w)
  rw [Oper.semAt_none, h]
  refine ⟨fun h => (by cases h), hr.mono ?_⟩
  intro e w' he
  obtain ⟨v, rfl, hk⟩ := hK e w' he
  exact hk
theorem allIn {md : Region.Mode} {fuel : Nat} {listed : Array Bool} {a : Act} {w : World} {i : Nat} {o : Oper} {rs : List Nat} (ho : ops[i]? = some o) (hw : Region.wanted o (yielded ops a.tmps) = true)
    (h : ∀ K' : Act → World → Prop, (∀ a w, wpAnyIn Fence.wide n P md ops Q fuel (listed.setIfInBounds i true) a w → K' a w) → Oper.wpIn Fence.wide n P o a w K' Q) (hs : AllReadyIn Fence.wide n P md ops Q fuel listed a w rs) : AllReadyIn Fence.wide n P md ops Q fuel listed a w (i :: rs) :=
  AllReadyIn.cons ho (fun K hK => by rw [if_pos hw]; exact h K hK) hs
end

end Go.Proofs.YtmconajkgjfplaaGreat
end

/- The iterator of fold.groups: the key of each group, and its rows. (Printed by fldd.py.) -/
section
set_option linter.unusedVariables false
set_option linter.unusedSimpArgs false
namespace Go.Proofs.YtmconajkgjfplaaGreat
open Go.RowKit Go.Shelf
set_option linter.unusedVariables false
set_option linter.unusedSimpArgs false
attribute [local go_sem] Oper.semAt_some

theorem Sl.within {P : Program} {α : Type} {E : El α} {size lo hi : Nat} {w : World} {a : Option Addr} {cap : Nat} {xs : List α} (h : Sl E size lo hi w (.slice a xs.length cap) xs) (t : TypeId) (ht : P.underlying t = some (.slice (P.elem t))) (hsz : ∀ w, (sizeOf (P.elem t)).run P w = .ok size w) (n m : Nat) (hn : n < m) (hm : m ≤ xs.length) :
    ∃ v1, (∀ w', (Instr.slice t (.slice a xs.length cap) (some (.int .i64 (n : Int))) (some (.int .i64 (m : Int))) none).run P w' = .ok v1 w') ∧ Sl E size lo hi w v1 ((xs.drop n).take (m - n)) := by
  obtain ⟨ao, c, e, h1, h2, h3, h4⟩ := h
  injection e with e1 _ e3
  subst e1 e3
  refine ⟨sliced a n m cap size, fun w' => ?_, ?_⟩
  · rw [run_slice_lh w' t a xs.length cap ht .i64 .i64 (n : Int) (m : Int) (by omega) (by omega) (by omega)]
    simp only [hsz, Result.andThen, Int.toNat_natCast]
  · have hx : xs ≠ [] := fun e => by subst e; simp at hm; omega
    obtain ⟨b, off, e, k1, k2, k3⟩ := h4 hx
    subst e
    unfold sliced
    rw [if_neg (by omega)]
    have := Sl.piece (cap := 0) k3 k1 k2 n (m - n) (cap - n) (by omega) (by omega) (by omega)
    simp only [Option.map_some, Addr.add_lit]
    exact this
/-- A loop's place: k groups are told, and i lies in the next one. -/
def Mid (f : List V → List V) (l : List (List V)) (k i : Nat) : Prop :=
  posK (runsK f l) k ≤ i ∧ (i < l.length → k < (runsK f l).length ∧ i < posK (runsK f l) (k + 1)) ∧ (i = l.length → k = (runsK f l).length)
theorem Mid.start (f : List V → List V) (l : List (List V)) : Mid f l 0 0 := ⟨Nat.zero_le _, fun h => (runsK_start f).1 h, fun h => ((runsK_start f).2 h.symm).symm⟩
theorem Mid.on {f : List V → List V} {l : List (List V)} {k i : Nat} (h : Mid f l k i) (hs : l.Pairwise fun x y => 0 ≤ cmpR (f y) (f x)) (hi : i + 1 < l.length) (hc : cmpR (f (l[i]'(by omega))) (f l[i + 1]) = 0) : Mid f l k (i + 1) := by
  obtain ⟨h1, h2, -⟩ := h
  obtain ⟨h3, h4⟩ := h2 (by omega)
  have := ((run_next f hs h3 h1 h4 (by omega)).2 hi).1 hc
  exact ⟨by omega, fun _ => ⟨h3, this⟩, fun e => by omega⟩
theorem Mid.cut {f : List V → List V} {l : List (List V)} {k i : Nat} (h : Mid f l k i) (hs : l.Pairwise fun x y => 0 ≤ cmpR (f y) (f x)) (hi : i < l.length) (hc : ∀ h : i + 1 < l.length, cmpR (f l[i]) (f l[i + 1]) ≠ 0) :
    k < (runsK f l).length ∧ posK (runsK f l) k < i + 1 ∧ i + 1 = posK (runsK f l) (k + 1) ∧ Mid f l (k + 1) (i + 1) ∧ (∀ hk : k < (runsK f l).length, (l.drop (posK (runsK f l) k)).take (i + 1 - posK (runsK f l) k) = (runsK f l)[k] ∧ f l[i] = keyG f (runsK f l)[k]) := by
  obtain ⟨h1, h2, -⟩ := h
  obtain ⟨h3, h4⟩ := h2 hi
  have hn := run_next f hs h3 h1 h4 hi
  have hle := posK_le (runsK f l) (k + 1)
  rw [runsK_flat] at hle
  have he : i + 1 = posK (runsK f l) (k + 1) := by
    by_cases hlt : i + 1 < l.length
    · have := mt (hn.2 hlt).2 (hc hlt); omega
    · omega
  have hj := run_jump f h3
  refine ⟨h3, by omega, he, ⟨by omega, fun h => ?_, fun h => ?_⟩, fun hk => ⟨?_, hn.1⟩⟩
  · have := hj.1 (by omega); exact ⟨this.1, by rw [he]; exact this.2⟩
  · exact hj.2 (by omega)
  · have h5 := posK_cut (runsK f l) hk
    have h6 := posK_succ (runsK f l) hk
    rw [runsK_flat] at h5
    rw [he, h6, Nat.add_sub_cancel_left]
    exact h5
set_option maxRecDepth 100000 in
set_option maxHeartbeats 8000000 in
theorem groups1_any (a b la ha br bt L m : Nat) (l : List (List V)) (at' : List Int) (cv rv va : Value) (J : Nat → Nat → World → Prop) (Z : World → Prop) (W0 : World)
    (hrows : Rws a b W0 rv l) (hb : b ≤ W0.heap.size) (hbr : Blk W0 br [cv, rv] 25) (hok : ∀ x ∈ l, AtOk x.length at') (hlen : l.length ≤ 1000000000) (hal : at'.length ≤ 1000000000000) (hha : ha ≤ W0.heap.size) (hbt : bt < W0.heap.size) (hat0 : Ints la ha W0 va at') (hbt0 : Blk W0 bt [va] 58)
    (hJF : ∀ k g W, J k g W → Agree a b W0 W ∧ Blk W bt [va] 58 ∧ Ints la ha W va at' ∧ W0.heap.size ≤ W.heap.size)
    (hJB : ∀ k g W W', J k g W → Below W.heap.size W W' → J k g W')
    (hJ0 : ∀ g W, Below W0.heap.size W0 W → W0.heap.size ≤ g → J 0 g W)
    (hY : ∀ k g Wb W kp kc gp gc grp, J k g Wb → Below Wb.heap.size Wb W → g < Wb.heap.size → (hk : k < (keysL (fun x => pickL x at') l).length) → OwnV Wb.heap.size W (.slice kp (keysL (fun x => pickL x at') l)[k].length kc) (keysL (fun x => pickL x at') l)[k] → Rws 0 Wb.heap.size W (.slice gp grp.length gc) grp → grp.Perm (withK (fun x => pickL x at') l (keysL (fun x => pickL x at') l)[k]) →
      YieldAt Fence.wide m Tryz.prog L #[.slice kp (keysL (fun x => pickL x at') l)[k].length kc, .slice gp grp.length gc] W (fun e W' => (e = .returned (.bool true) ∧ J (k + 1) g W' ∧ W'.heap[g]? = W.heap[g]?) ∨ (e = .returned (.bool false) ∧ Z W'))) :
    CallsIn Fence.wide (m + 1) Tryz.prog 50 #[.func (.yield L) #[] #[], .pointer (some ⟨br, 0, none⟩), .pointer (some ⟨bt, 0, none⟩)] W0 (fun e W' => (∃ v, e = .returned v) ∧ ((∃ g, J (keysL (fun x => pickL x at') l).length g W') ∨ Z W')) := by
  have HJF := Lib.hid hJF
  have HJB := Lib.hid hJB
  have HJ0 := Lib.hid hJ0
  have HY := Lib.hid hY
  have Hrows := Lib.hid hrows
  have Hok := Lib.hid hok
  have Hat0 := Lib.hid hat0
  have Hbt0 := Lib.hid hbt0
  obtain ⟨ra, rc, rfl, -, -, -, -⟩ := hrows.form
  obtain ⟨aa, ca, rfl, -, -, -, -⟩ := hat0.form
  obtain ⟨c0, c1⟩ := hbr.cells.c2
  have hbrl := hbr.lt
  clear hJF hJB hJ0 hY hrows hok hbr hat0 hbt0
  refine callsIn_of_wp Tryz.func50 rfl trivial ?_ rfl
  simp only [Tryz.ntmps50, List.size_toArray, List.length_cons, Nat.reduceAdd, Nat.reduceSub, Array.replicate_succ, Array.replicate_zero, List.push_toArray, List.append_toArray, List.nil_append, List.cons_append, List.length_nil]
  refine wpIn_wide.2 (wp_scope_straight ((wpIn_wide (n := m + 1)).1 ?_))
  gi_wp2_with fail
  refine ⟨by first | trivial | simp, callsIn_wide.2 (CloneRws_any a b l _ W0 Hrows.out hb (by omega) _ (fun W1 v1 hB1 hL1 => ?_))⟩
  have HB1 := Lib.hid hB1
  have HL1 := Lib.hid hL1
  obtain ⟨p1, k1, rfl⟩ := LS.slice hL1
  clear hB1 hL1
  gi_wp2_with fail
  refine ⟨by first | trivial | simp, callsIn_wide.2 (SortStable_any W0.heap.size a b la ha bt _ _ l at' W1 HL1.out hb hha hbt (Hbt0.out.below HB1.out hbt) (Sl.below Hat0.out Ints.loc HB1.out hha) Hok.out hal (by omega) _ (fun W2 l' hO2 hL2 hP2 hS2 => ?_))⟩
  have hll : l'.length = l.length := hP2.length_eq
  rw [← hll] at hL2 hO2
  obtain ⟨g, hg1, hg2⟩ : ∃ g, W0.heap.size ≤ g ∧ ∀ g', (Value.slice p1 l'.length k1).ownBlock = some g' → g' = g := by
    cases hob : (Value.slice p1 l'.length k1).ownBlock with
    | none => exact ⟨_, Nat.le_refl _, fun g' e => by cases e⟩
    | some g => exact ⟨g, (LS.lt hL2 g hob).1, fun g' e => by injection e with e; exact e.symm⟩
  have HG2 := Lib.hid hg2
  have HLs := Lib.hid hL2
  have HS := Lib.hid hS2
  have HP := Lib.hid hP2
  have HOk : Hid (∀ x ∈ l', AtOk x.length at') := Lib.hid (fun x hx => Hok.out x (hP2.mem_iff.1 hx))
  have HT : Hid ((runsK (fun x => pickL x at') l').length = (keysL (fun x => pickL x at') l).length) := Lib.hid (by rw [← runsK_canon (fun x => pickL x at') hS2 hP2, List.length_map])
  have HJ := Lib.hid (HJ0.out g W2 (HB1.out.trans (hO2.below HB1.out.size (fun k e => (LS.lt HL1.out k (by rw [hll] at e; exact e)).1))) hg1)
  have hl9 : l'.length ≤ 1000000000 := by omega
  rw [← hll]
  clear hL2 hO2 hS2 hP2 hg2 c0 c1 HB1 HL1 HJ0 Hbt0 Hat0 Hrows Hok
  clear hll
  gi_wp2_with fail
  refine wpIn_label ?_
  gi_wp2_with fail
  gi_loopw [5, 15] (fun t5 t15 wr => ∃ k i from' : Nat, t5 = .int .i64 from' ∧ t15 = .int .i64 i ∧ i ≤ l'.length ∧ Hid (from' = posK (runsK (fun x => pickL x at') l') k) ∧ Hid (Mid (fun x => pickL x at') l' k i) ∧ Hid (LS W0.heap.size a b wr (.slice p1 l'.length k1) l') ∧ Hid (J k g wr)) (fun _ t15 _ => l'.length - (intOf t15).toNat)
  case atStart => exact ⟨0, 0, 0, rfl, rfl, Nat.zero_le _, Lib.hid rfl, Lib.hid (Mid.start _ _), HLs, HJ⟩
  case round =>
    clear HLs HJ
    obtain ⟨k, i, fr, rfl, rfl, hil, Hfr, HM, HLs, HJ⟩ := hrel
    obtain ⟨wo, ewo⟩ : ∃ x, x = wr := ⟨_, rfl⟩
    subst ewo
    obtain ⟨f1, f2, f3, f4⟩ := HJF.out _ _ _ HJ.out
    have hz := f4
    have F1 := Lib.hid f1
    have F2 := Lib.hid f2
    have F3 := Lib.hid f3
    clear f1 f2 f3 f4
    have ii0 : (0 : Int) ≤ (i : Int) := by omega
    by_cases hlt : i < l'.length
    · have iil : (i : Int) < (l'.length : Int) := by omega
      have RR := Lib.hid (LS.rws HLs.out (w := wo) (by omega))
      obtain ⟨b4, o4, rfl, hb4, hrow4⟩ := Rws.at RR.out (Nat.le_refl _) (by omega)
      have hgl : g < wo.heap.size := by
        have e := HG2.out
        obtain ⟨hs, hl, ho, -⟩ := HLs.out
        obtain ⟨g3, c3, e3, -, h3, -⟩ := Own.form ho (by intro e; subst e; simp at hl; omega)
        injection e3 with e3 _ _
        injection e3 with e3
        injection e3 with e3 e5 _
        subst e3 e5
        rw [← e b4 rfl]; exact h3
      obtain ⟨p2, c2, g2, r2⟩ := hrow4 i hlt
      obtain ⟨x, hx⟩ : ∃ x, x = l'[i] := ⟨_, rfl⟩
      rw [← hx] at g2 r2
      have Hx := Lib.hid hx
      have G2 := Lib.hid g2
      have R2 := Lib.hid r2
      have Hkx : Hid (AtOk x.length at') := Lib.hid (by rw [hx]; exact HOk.out _ (List.getElem_mem hlt))
      obtain ⟨j, hj⟩ : ∃ j, j = i + 1 := ⟨_, rfl⟩
      have Hj := Lib.hid hj
      have ej : IntKind.i64.wrap ((i : Int) + 1) = (j : Int) := (wrapOk (by omega) (by omega)).trans (by omega)
      have jj0 : (0 : Int) ≤ (j : Int) := by omega
      have hxl := r2.len
      clear g2 r2 hx hj
      have HR4 := Lib.hid hrow4
      clear hrow4
      gi_wp2_with fail
      by_cases hjl0 : j < l'.length
      · have jjl : (j : Int) < (l'.length : Int) := by omega
        obtain ⟨p3, c3, g3, r3⟩ := HR4.out j hjl0
        obtain ⟨y, hy⟩ : ∃ y, y = l'[j] := ⟨_, rfl⟩
        rw [← hy] at g3 r3
        have Hy := Lib.hid hy
        have G3 := Lib.hid g3
        have R3 := Lib.hid r3
        have Hky : Hid (AtOk y.length at') := Lib.hid (by rw [hy]; exact HOk.out _ (List.getElem_mem hjl0))
        have hyl := r3.len
        clear g3 r3 hy
        by_cases hc : cmpR (pickL x at') (pickL y at') = 0
        · have HC := Lib.hid hc
          clear hc
          refine wpIn_wide.2 ?_
          refine wp_region_held_drew (S := fun w' => Gw wo w') (by kernel_rfl) ((Gw.refl _).drew) (fun hHeld => ?_)
          refine wpAnyH_take (i := 0) (v := .int .i64 ((i : Int))) rfl (by kernel_rfl) (by kernel_rfl) (by kernel_rfl) (fun _ _ _ h => h) (Or.inl ⟨by rfl, ?_⟩) hHeld ?_
          · intro w' hSw; go_simp
          try simp only [Act.put, List.getElem_toArray, List.getElem_cons_succ, List.getElem_cons_zero, List.setIfInBounds_toArray, List.set_cons_zero, List.set_cons_succ]
          refine wpAnyH_take (i := 1) (v := .int .i64 ((j : Int))) rfl (by kernel_rfl) (by kernel_rfl) (by kernel_rfl) (fun _ _ _ h => h) (Or.inl ⟨by rfl, ?_⟩) hHeld ?_
          · intro w' hSw; go_simp
          try simp only [Act.put, List.getElem_toArray, List.getElem_cons_succ, List.getElem_cons_zero, List.setIfInBounds_toArray, List.set_cons_zero, List.set_cons_succ]
          refine wpAnyH_take (i := 2) (v := .slice (some ⟨b4, o4, none⟩) l'.length k1) rfl (by kernel_rfl) (by kernel_rfl) (by kernel_rfl) (fun _ _ _ h => h) (Or.inl ⟨by rfl, ?_⟩) hHeld ?_
          · intro w' hSw; go_simp
          try simp only [Act.put, List.getElem_toArray, List.getElem_cons_succ, List.getElem_cons_zero, List.setIfInBounds_toArray, List.set_cons_zero, List.set_cons_succ]
          refine wpAnyH_take (i := 3) (v := .int .i64 ((l'.length : Int))) rfl (by kernel_rfl) (by kernel_rfl) (by kernel_rfl) (fun _ _ _ h => h) (Or.inl ⟨by rfl, ?_⟩) hHeld ?_
          · intro w' hSw; go_simp
          try simp only [Act.put, List.getElem_toArray, List.getElem_cons_succ, List.getElem_cons_zero, List.setIfInBounds_toArray, List.set_cons_zero, List.set_cons_succ]
          refine wpAnyH_take (i := 4) (v := .bool true) rfl (by kernel_rfl) (by kernel_rfl) (by kernel_rfl) (fun _ _ _ h => h) (Or.inl ⟨by rfl, ?_⟩) hHeld ?_
          · intro w' hSw; go_simp
          try simp only [Act.put, List.getElem_toArray, List.getElem_cons_succ, List.getElem_cons_zero, List.setIfInBounds_toArray, List.set_cons_zero, List.set_cons_succ]
          refine wpAnyH_take (i := 5) (v := .bool true) rfl (by kernel_rfl) (by kernel_rfl) (by kernel_rfl) (fun _ _ _ h => h) (Or.inl ⟨by rfl, ?_⟩) hHeld ?_
          · intro w' hSw; go_simp
          try simp only [Act.put, List.getElem_toArray, List.getElem_cons_succ, List.getElem_cons_zero, List.setIfInBounds_toArray, List.set_cons_zero, List.set_cons_succ]
          refine wpAnyH_take (i := 6) (v := .slice (some ⟨b4, o4, none⟩) l'.length k1) rfl (by kernel_rfl) (by kernel_rfl) (by kernel_rfl) (fun _ _ _ h => h) (Or.inl ⟨by rfl, ?_⟩) hHeld ?_
          · intro w' hSw; go_simp
          try simp only [Act.put, List.getElem_toArray, List.getElem_cons_succ, List.getElem_cons_zero, List.setIfInBounds_toArray, List.set_cons_zero, List.set_cons_succ]
          refine wpAnyH_take (i := 7) (v := .int .i64 ((i : Int))) rfl (by kernel_rfl) (by kernel_rfl) (by kernel_rfl) (fun _ _ _ h => h) (Or.inl ⟨by rfl, ?_⟩) hHeld ?_
          · intro w' hSw; go_simp
          try simp only [Act.put, List.getElem_toArray, List.getElem_cons_succ, List.getElem_cons_zero, List.setIfInBounds_toArray, List.set_cons_zero, List.set_cons_succ]
          refine wpAnyH_take (i := 8) (v := .pointer (some ⟨b4, o4 + i, none⟩)) rfl (by kernel_rfl) (by kernel_rfl) (by kernel_rfl) (fun _ _ _ h => h) (Or.inl ⟨by rfl, ?_⟩) hHeld ?_
          · intro w' hSw; go_simp
          try simp only [Act.put, List.getElem_toArray, List.getElem_cons_succ, List.getElem_cons_zero, List.setIfInBounds_toArray, List.set_cons_zero, List.set_cons_succ]
          refine wpAnyH_take (i := 9) (v := .slice p2 x.length c2) rfl (by kernel_rfl) (by kernel_rfl) (by kernel_rfl) (fun _ _ _ h => h) (Or.inl ⟨by rfl, ?_⟩) hHeld ?_
          · intro w' hSw; have kx := G2.out w' hSw.below; go_simp
          try simp only [Act.put, List.getElem_toArray, List.getElem_cons_succ, List.getElem_cons_zero, List.setIfInBounds_toArray, List.set_cons_zero, List.set_cons_succ]
          refine wpAnyH_take (i := 10) (v := .slice aa at'.length ca) rfl (by kernel_rfl) (by kernel_rfl) (by kernel_rfl) (fun _ _ _ h => h) (Or.inl ⟨by rfl, ?_⟩) hHeld ?_
          · intro w' hSw; have kx := ((F2.out.below hSw.below (by omega)).cells).c1; go_simp
          try simp only [Act.put, List.getElem_toArray, List.getElem_cons_succ, List.getElem_cons_zero, List.setIfInBounds_toArray, List.set_cons_zero, List.set_cons_succ]
          refine wpAnyH_take (i := 12) (v := .slice (some ⟨b4, o4, none⟩) l'.length k1) rfl (by kernel_rfl) (by kernel_rfl) (by kernel_rfl) (fun _ _ _ h => h) (Or.inl ⟨by rfl, ?_⟩) hHeld ?_
          · intro w' hSw; go_simp
          try simp only [Act.put, List.getElem_toArray, List.getElem_cons_succ, List.getElem_cons_zero, List.setIfInBounds_toArray, List.set_cons_zero, List.set_cons_succ]
          refine wpAnyH_take (i := 13) (v := .int .i64 ((i : Int))) rfl (by kernel_rfl) (by kernel_rfl) (by kernel_rfl) (fun _ _ _ h => h) (Or.inl ⟨by rfl, ?_⟩) hHeld ?_
          · intro w' hSw; go_simp
          try simp only [Act.put, List.getElem_toArray, List.getElem_cons_succ, List.getElem_cons_zero, List.setIfInBounds_toArray, List.set_cons_zero, List.set_cons_succ]
          refine wpAnyH_take (i := 14) (v := .int .i64 ((j : Int))) rfl (by kernel_rfl) (by kernel_rfl) (by kernel_rfl) (fun _ _ _ h => h) (Or.inl ⟨by rfl, ?_⟩) hHeld ?_
          · intro w' hSw; go_simp
          try simp only [Act.put, List.getElem_toArray, List.getElem_cons_succ, List.getElem_cons_zero, List.setIfInBounds_toArray, List.set_cons_zero, List.set_cons_succ]
          refine wpAnyH_take (i := 15) (v := .pointer (some ⟨b4, o4 + j, none⟩)) rfl (by kernel_rfl) (by kernel_rfl) (by kernel_rfl) (fun _ _ _ h => h) (Or.inl ⟨by rfl, ?_⟩) hHeld ?_
          · intro w' hSw; go_simp
          try simp only [Act.put, List.getElem_toArray, List.getElem_cons_succ, List.getElem_cons_zero, List.setIfInBounds_toArray, List.set_cons_zero, List.set_cons_succ]
          refine wpAnyH_take (i := 16) (v := .slice p3 y.length c3) rfl (by kernel_rfl) (by kernel_rfl) (by kernel_rfl) (fun _ _ _ h => h) (Or.inl ⟨by rfl, ?_⟩) hHeld ?_
          · intro w' hSw; have kx := G3.out w' hSw.below; go_simp
          try simp only [Act.put, List.getElem_toArray, List.getElem_cons_succ, List.getElem_cons_zero, List.setIfInBounds_toArray, List.set_cons_zero, List.set_cons_succ]
          refine wpAnyH_take (i := 17) (v := .slice aa at'.length ca) rfl (by kernel_rfl) (by kernel_rfl) (by kernel_rfl) (fun _ _ _ h => h) (Or.inl ⟨by rfl, ?_⟩) hHeld ?_
          · intro w' hSw; have kx := ((F2.out.below hSw.below (by omega)).cells).c1; go_simp
          try simp only [Act.put, List.getElem_toArray, List.getElem_cons_succ, List.getElem_cons_zero, List.setIfInBounds_toArray, List.set_cons_zero, List.set_cons_succ]
          refine wpAnyH_ready (rs := [11]) (by kernel_rfl) (by simp) ?_
          refine allCall (f := 54) (args := #[.slice p2 x.length c2, .slice aa at'.length ca]) rfl (by kernel_rfl) (by kernel_rfl) ?_ AllReadyH.nil
          refine key_any 0 wo.heap.size la ha x at' _ _ wo.drew (Sl.below R2.out Row1.loc ((Below.refl _ _).drew) (Nat.le_refl _)) (Nat.le_refl _) (Sl.below F3.out Ints.loc ((Below.refl wo.heap.size wo).drew) (by omega)) (by show ha ≤ wo.heap.size; omega) Hkx.out hal _ (fun w1 v1 hg1 ho1 => ?_)
          obtain ⟨p5, c5, rfl⟩ := Own.slice ho1
          have hG1 : Gw wo w1 := ((Gw.refl _).drew).trans hg1
          have HG1 := Lib.hid hG1
          have HO1 : Hid (OwnV wo.heap.size w1 _ _) := Lib.hid ho1
          refine ⟨_, rfl, hG1, ?_⟩
          clear hHeld
          have hHeld := hG1
          clear ho1 hg1 hG1
          try simp only [Act.put, List.getElem_toArray, List.getElem_cons_succ, List.getElem_cons_zero, List.setIfInBounds_toArray, List.set_cons_zero, List.set_cons_succ]
          refine wpAnyH_ready (rs := [18]) (by kernel_rfl) (by simp) ?_
          refine allCall (f := 54) (args := #[.slice p3 y.length c3, .slice aa at'.length ca]) rfl (by kernel_rfl) (by kernel_rfl) ?_ AllReadyH.nil
          refine key_any 0 wo.heap.size la ha y at' _ _ w1 (Sl.below R3.out Row1.loc HG1.out.below (Nat.le_refl _)) HG1.out.size (Sl.below F3.out Ints.loc HG1.out.below (by omega)) (by have := HG1.out.size; omega) Hky.out hal _ (fun w2 v2 hg2' ho2 => ?_)
          obtain ⟨p6, c6, rfl⟩ := Own.slice ho2
          have hG2 : Gw wo w2 := HG1.out.trans hg2'
          have HG2' := Lib.hid hG2
          have HG12 := Lib.hid hg2'
          have HO2 : Hid (OwnV w1.heap.size w2 _ _) := Lib.hid ho2
          refine ⟨_, rfl, hG2, ?_⟩
          clear hHeld
          have hHeld := hG2
          clear ho2 hg2' hG2
          try simp only [Act.put, List.getElem_toArray, List.getElem_cons_succ, List.getElem_cons_zero, List.setIfInBounds_toArray, List.set_cons_zero, List.set_cons_succ]
          refine wpAnyH_ready (rs := [19]) (by kernel_rfl) (by simp) ?_
          refine allCall (f := 9) (args := #[.slice p5 (pickL x at').length c5, .slice p6 (pickL y at').length c6]) rfl (by kernel_rfl) (by kernel_rfl) ?_ AllReadyH.nil
          refine rowsCompare_any _ _ _ _ (pickL x at') (pickL y at') _ _ w2 (OwnV.sl (Own.kept HO1.out HG12.out.below)) (OwnV.sl HO2.out) (Nat.le_refl _) (Nat.le_refl _) _ (fun w6 hg6 => ?_)
          have hG6 : Gw wo w6 := HG2'.out.trans hg6
          have HG6 := Lib.hid hG6
          refine ⟨_, rfl, hG6, ?_⟩
          clear hHeld
          have hHeld := hG6
          clear hg6 hG6 HG1 HG2' HG12 HO1 HO2
          rw [HC.out]
          try simp only [Act.put, List.getElem_toArray, List.getElem_cons_succ, List.getElem_cons_zero, List.setIfInBounds_toArray, List.set_cons_zero, List.set_cons_succ]
          refine wpAnyH_take (i := 20) (v := .bool true) rfl (by kernel_rfl) (by kernel_rfl) (by kernel_rfl) (fun _ _ _ h => h) (Or.inl ⟨by rfl, ?_⟩) hHeld ?_
          · intro w' hSw; go_simp
          try simp only [Act.put, List.getElem_toArray, List.getElem_cons_succ, List.getElem_cons_zero, List.setIfInBounds_toArray, List.set_cons_zero, List.set_cons_succ]
          refine wpAnyH_take (i := 21) (v := .bool true) rfl (by kernel_rfl) (by kernel_rfl) (by kernel_rfl) (fun _ _ _ h => h) (Or.inl ⟨by rfl, ?_⟩) hHeld ?_
          · intro w' hSw; go_simp
          try simp only [Act.put, List.getElem_toArray, List.getElem_cons_succ, List.getElem_cons_zero, List.setIfInBounds_toArray, List.set_cons_zero, List.set_cons_succ]
          refine wpAnyH_done (by kernel_rfl) ?_ _
          clear hHeld
          gi_wp2_with fail
          have HCC : Hid (∀ h : i + 1 < l'.length, cmpR (pickL l'[i] at') (pickL l'[i + 1] at') = 0) := Lib.hid (fun h => by
            have e1 := Hx.out
            have e2 := Hy.out
            have e3 := Hj.out
            subst e3
            rw [← e1, ← e2]
            exact HC.out)
          go_roundw
          case rel =>
            exact ⟨k, j, fr, rfl, by first | rfl | go_num, by omega, Hfr, Lib.hid (by rw [Hj.out]; exact HM.out.on HS.out (by have := Hj.out; omega) (HCC.out (by have := Hj.out; omega))), Lib.hid (LS.same HLs.out (w' := w6) (fun g' e => HG6.out.below.block g' (LS.lt HLs.out g' e).2) (.below HG6.out.below (by omega))), Lib.hid (HJB.out _ _ _ _ HJ.out HG6.out.below)⟩
          case measure => have := Hj.out; simp [intOf]; omega
        · have HC := Lib.hid hc
          have HC2 : Hid (∀ h : i + 1 < l'.length, cmpR ((fun x => pickL x at') l'[i]) ((fun x => pickL x at') l'[i + 1]) ≠ 0) := Lib.hid (fun h => by
            have e1 := Hx.out
            have e2 := Hy.out
            have e3 := Hj.out
            subst e3
            show cmpR (pickL l'[i] at') (pickL l'[i + 1] at') ≠ 0
            rw [← e1, ← e2]
            exact HC.out)
          clear hc
          refine wpIn_wide.2 ?_
          refine wp_region_held_drew (S := fun w' => Gw wo w') (by kernel_rfl) ((Gw.refl _).drew) (fun hHeld => ?_)
          refine wpAnyH_take (i := 0) (v := .int .i64 ((i : Int))) rfl (by kernel_rfl) (by kernel_rfl) (by kernel_rfl) (fun _ _ _ h => h) (Or.inl ⟨by rfl, ?_⟩) hHeld ?_
          · intro w' hSw; go_simp
          try simp only [Act.put, List.getElem_toArray, List.getElem_cons_succ, List.getElem_cons_zero, List.setIfInBounds_toArray, List.set_cons_zero, List.set_cons_succ]
          refine wpAnyH_take (i := 1) (v := .int .i64 ((j : Int))) rfl (by kernel_rfl) (by kernel_rfl) (by kernel_rfl) (fun _ _ _ h => h) (Or.inl ⟨by rfl, ?_⟩) hHeld ?_
          · intro w' hSw; go_simp
          try simp only [Act.put, List.getElem_toArray, List.getElem_cons_succ, List.getElem_cons_zero, List.setIfInBounds_toArray, List.set_cons_zero, List.set_cons_succ]
          refine wpAnyH_take (i := 2) (v := .slice (some ⟨b4, o4, none⟩) l'.length k1) rfl (by kernel_rfl) (by kernel_rfl) (by kernel_rfl) (fun _ _ _ h => h) (Or.inl ⟨by rfl, ?_⟩) hHeld ?_
          · intro w' hSw; go_simp
          try simp only [Act.put, List.getElem_toArray, List.getElem_cons_succ, List.getElem_cons_zero, List.setIfInBounds_toArray, List.set_cons_zero, List.set_cons_succ]
          refine wpAnyH_take (i := 3) (v := .int .i64 ((l'.length : Int))) rfl (by kernel_rfl) (by kernel_rfl) (by kernel_rfl) (fun _ _ _ h => h) (Or.inl ⟨by rfl, ?_⟩) hHeld ?_
          · intro w' hSw; go_simp
          try simp only [Act.put, List.getElem_toArray, List.getElem_cons_succ, List.getElem_cons_zero, List.setIfInBounds_toArray, List.set_cons_zero, List.set_cons_succ]
          refine wpAnyH_take (i := 4) (v := .bool true) rfl (by kernel_rfl) (by kernel_rfl) (by kernel_rfl) (fun _ _ _ h => h) (Or.inl ⟨by rfl, ?_⟩) hHeld ?_
          · intro w' hSw; go_simp
          try simp only [Act.put, List.getElem_toArray, List.getElem_cons_succ, List.getElem_cons_zero, List.setIfInBounds_toArray, List.set_cons_zero, List.set_cons_succ]
          refine wpAnyH_take (i := 5) (v := .bool true) rfl (by kernel_rfl) (by kernel_rfl) (by kernel_rfl) (fun _ _ _ h => h) (Or.inl ⟨by rfl, ?_⟩) hHeld ?_
          · intro w' hSw; go_simp
          try simp only [Act.put, List.getElem_toArray, List.getElem_cons_succ, List.getElem_cons_zero, List.setIfInBounds_toArray, List.set_cons_zero, List.set_cons_succ]
          refine wpAnyH_take (i := 6) (v := .slice (some ⟨b4, o4, none⟩) l'.length k1) rfl (by kernel_rfl) (by kernel_rfl) (by kernel_rfl) (fun _ _ _ h => h) (Or.inl ⟨by rfl, ?_⟩) hHeld ?_
          · intro w' hSw; go_simp
          try simp only [Act.put, List.getElem_toArray, List.getElem_cons_succ, List.getElem_cons_zero, List.setIfInBounds_toArray, List.set_cons_zero, List.set_cons_succ]
          refine wpAnyH_take (i := 7) (v := .int .i64 ((i : Int))) rfl (by kernel_rfl) (by kernel_rfl) (by kernel_rfl) (fun _ _ _ h => h) (Or.inl ⟨by rfl, ?_⟩) hHeld ?_
          · intro w' hSw; go_simp
          try simp only [Act.put, List.getElem_toArray, List.getElem_cons_succ, List.getElem_cons_zero, List.setIfInBounds_toArray, List.set_cons_zero, List.set_cons_succ]
          refine wpAnyH_take (i := 8) (v := .pointer (some ⟨b4, o4 + i, none⟩)) rfl (by kernel_rfl) (by kernel_rfl) (by kernel_rfl) (fun _ _ _ h => h) (Or.inl ⟨by rfl, ?_⟩) hHeld ?_
          · intro w' hSw; go_simp
          try simp only [Act.put, List.getElem_toArray, List.getElem_cons_succ, List.getElem_cons_zero, List.setIfInBounds_toArray, List.set_cons_zero, List.set_cons_succ]
          refine wpAnyH_take (i := 9) (v := .slice p2 x.length c2) rfl (by kernel_rfl) (by kernel_rfl) (by kernel_rfl) (fun _ _ _ h => h) (Or.inl ⟨by rfl, ?_⟩) hHeld ?_
          · intro w' hSw; have kx := G2.out w' hSw.below; go_simp
          try simp only [Act.put, List.getElem_toArray, List.getElem_cons_succ, List.getElem_cons_zero, List.setIfInBounds_toArray, List.set_cons_zero, List.set_cons_succ]
          refine wpAnyH_take (i := 10) (v := .slice aa at'.length ca) rfl (by kernel_rfl) (by kernel_rfl) (by kernel_rfl) (fun _ _ _ h => h) (Or.inl ⟨by rfl, ?_⟩) hHeld ?_
          · intro w' hSw; have kx := ((F2.out.below hSw.below (by omega)).cells).c1; go_simp
          try simp only [Act.put, List.getElem_toArray, List.getElem_cons_succ, List.getElem_cons_zero, List.setIfInBounds_toArray, List.set_cons_zero, List.set_cons_succ]
          refine wpAnyH_take (i := 12) (v := .slice (some ⟨b4, o4, none⟩) l'.length k1) rfl (by kernel_rfl) (by kernel_rfl) (by kernel_rfl) (fun _ _ _ h => h) (Or.inl ⟨by rfl, ?_⟩) hHeld ?_
          · intro w' hSw; go_simp
          try simp only [Act.put, List.getElem_toArray, List.getElem_cons_succ, List.getElem_cons_zero, List.setIfInBounds_toArray, List.set_cons_zero, List.set_cons_succ]
          refine wpAnyH_take (i := 13) (v := .int .i64 ((i : Int))) rfl (by kernel_rfl) (by kernel_rfl) (by kernel_rfl) (fun _ _ _ h => h) (Or.inl ⟨by rfl, ?_⟩) hHeld ?_
          · intro w' hSw; go_simp
          try simp only [Act.put, List.getElem_toArray, List.getElem_cons_succ, List.getElem_cons_zero, List.setIfInBounds_toArray, List.set_cons_zero, List.set_cons_succ]
          refine wpAnyH_take (i := 14) (v := .int .i64 ((j : Int))) rfl (by kernel_rfl) (by kernel_rfl) (by kernel_rfl) (fun _ _ _ h => h) (Or.inl ⟨by rfl, ?_⟩) hHeld ?_
          · intro w' hSw; go_simp
          try simp only [Act.put, List.getElem_toArray, List.getElem_cons_succ, List.getElem_cons_zero, List.setIfInBounds_toArray, List.set_cons_zero, List.set_cons_succ]
          refine wpAnyH_take (i := 15) (v := .pointer (some ⟨b4, o4 + j, none⟩)) rfl (by kernel_rfl) (by kernel_rfl) (by kernel_rfl) (fun _ _ _ h => h) (Or.inl ⟨by rfl, ?_⟩) hHeld ?_
          · intro w' hSw; go_simp
          try simp only [Act.put, List.getElem_toArray, List.getElem_cons_succ, List.getElem_cons_zero, List.setIfInBounds_toArray, List.set_cons_zero, List.set_cons_succ]
          refine wpAnyH_take (i := 16) (v := .slice p3 y.length c3) rfl (by kernel_rfl) (by kernel_rfl) (by kernel_rfl) (fun _ _ _ h => h) (Or.inl ⟨by rfl, ?_⟩) hHeld ?_
          · intro w' hSw; have kx := G3.out w' hSw.below; go_simp
          try simp only [Act.put, List.getElem_toArray, List.getElem_cons_succ, List.getElem_cons_zero, List.setIfInBounds_toArray, List.set_cons_zero, List.set_cons_succ]
          refine wpAnyH_take (i := 17) (v := .slice aa at'.length ca) rfl (by kernel_rfl) (by kernel_rfl) (by kernel_rfl) (fun _ _ _ h => h) (Or.inl ⟨by rfl, ?_⟩) hHeld ?_
          · intro w' hSw; have kx := ((F2.out.below hSw.below (by omega)).cells).c1; go_simp
          try simp only [Act.put, List.getElem_toArray, List.getElem_cons_succ, List.getElem_cons_zero, List.setIfInBounds_toArray, List.set_cons_zero, List.set_cons_succ]
          refine wpAnyH_ready (rs := [11]) (by kernel_rfl) (by simp) ?_
          refine allCall (f := 54) (args := #[.slice p2 x.length c2, .slice aa at'.length ca]) rfl (by kernel_rfl) (by kernel_rfl) ?_ AllReadyH.nil
          refine key_any 0 wo.heap.size la ha x at' _ _ wo.drew (Sl.below R2.out Row1.loc ((Below.refl _ _).drew) (Nat.le_refl _)) (Nat.le_refl _) (Sl.below F3.out Ints.loc ((Below.refl wo.heap.size wo).drew) (by omega)) (by show ha ≤ wo.heap.size; omega) Hkx.out hal _ (fun w1 v1 hg1 ho1 => ?_)
          obtain ⟨p5, c5, rfl⟩ := Own.slice ho1
          have hG1 : Gw wo w1 := ((Gw.refl _).drew).trans hg1
          have HG1 := Lib.hid hG1
          have HO1 : Hid (OwnV wo.heap.size w1 _ _) := Lib.hid ho1
          refine ⟨_, rfl, hG1, ?_⟩
          clear hHeld
          have hHeld := hG1
          clear ho1 hg1 hG1
          try simp only [Act.put, List.getElem_toArray, List.getElem_cons_succ, List.getElem_cons_zero, List.setIfInBounds_toArray, List.set_cons_zero, List.set_cons_succ]
          refine wpAnyH_ready (rs := [18]) (by kernel_rfl) (by simp) ?_
          refine allCall (f := 54) (args := #[.slice p3 y.length c3, .slice aa at'.length ca]) rfl (by kernel_rfl) (by kernel_rfl) ?_ AllReadyH.nil
          refine key_any 0 wo.heap.size la ha y at' _ _ w1 (Sl.below R3.out Row1.loc HG1.out.below (Nat.le_refl _)) HG1.out.size (Sl.below F3.out Ints.loc HG1.out.below (by omega)) (by have := HG1.out.size; omega) Hky.out hal _ (fun w2 v2 hg2' ho2 => ?_)
          obtain ⟨p6, c6, rfl⟩ := Own.slice ho2
          have hG2 : Gw wo w2 := HG1.out.trans hg2'
          have HG2' := Lib.hid hG2
          have HG12 := Lib.hid hg2'
          have HO2 : Hid (OwnV w1.heap.size w2 _ _) := Lib.hid ho2
          refine ⟨_, rfl, hG2, ?_⟩
          clear hHeld
          have hHeld := hG2
          clear ho2 hg2' hG2
          try simp only [Act.put, List.getElem_toArray, List.getElem_cons_succ, List.getElem_cons_zero, List.setIfInBounds_toArray, List.set_cons_zero, List.set_cons_succ]
          refine wpAnyH_ready (rs := [19]) (by kernel_rfl) (by simp) ?_
          refine allCall (f := 9) (args := #[.slice p5 (pickL x at').length c5, .slice p6 (pickL y at').length c6]) rfl (by kernel_rfl) (by kernel_rfl) ?_ AllReadyH.nil
          refine rowsCompare_any _ _ _ _ (pickL x at') (pickL y at') _ _ w2 (OwnV.sl (Own.kept HO1.out HG12.out.below)) (OwnV.sl HO2.out) (Nat.le_refl _) (Nat.le_refl _) _ (fun w6 hg6 => ?_)
          have hG6 : Gw wo w6 := HG2'.out.trans hg6
          have HG6 := Lib.hid hG6
          refine ⟨_, rfl, hG6, ?_⟩
          clear hHeld
          have hHeld := hG6
          clear hg6 hG6 HG1 HG2' HG12 HO1 HO2
          have hc0 := HC.out
          generalize cmpR (pickL x at') (pickL y at') = cv at hc0 ⊢
          try simp only [Act.put, List.getElem_toArray, List.getElem_cons_succ, List.getElem_cons_zero, List.setIfInBounds_toArray, List.set_cons_zero, List.set_cons_succ]
          refine wpAnyH_take (i := 20) (v := .bool false) rfl (by kernel_rfl) (by kernel_rfl) (by kernel_rfl) (fun _ _ _ h => h) (Or.inl ⟨by rfl, ?_⟩) hHeld ?_
          · intro w' hSw; go_simp
          try simp only [Act.put, List.getElem_toArray, List.getElem_cons_succ, List.getElem_cons_zero, List.setIfInBounds_toArray, List.set_cons_zero, List.set_cons_succ]
          refine wpAnyH_take (i := 21) (v := .bool false) rfl (by kernel_rfl) (by kernel_rfl) (by kernel_rfl) (fun _ _ _ h => h) (Or.inl ⟨by rfl, ?_⟩) hHeld ?_
          · intro w' hSw; go_simp
          try simp only [Act.put, List.getElem_toArray, List.getElem_cons_succ, List.getElem_cons_zero, List.setIfInBounds_toArray, List.set_cons_zero, List.set_cons_succ]
          refine wpAnyH_done (by kernel_rfl) ?_ _
          clear hHeld
          clear hc0
          gi_wp2_with fail
          obtain ⟨hkG, hfi, hje, hmid, hgrp⟩ := HM.out.cut HS.out hlt HC2.out
          have hkT : k < (keysL (fun x => pickL x at') l).length := by rw [← HT.out]; exact hkG
          have Hkx2 := Lib.hid (hgrp hkG)
          have Hperm := Lib.hid (runsK_perm (fun x => pickL x at') HS.out HP.out k hkG hkT)
          have Hmid := Lib.hid hmid
          have Hje := Lib.hid (Hj.out.trans hje)
          have hz6 := HG6.out.size
          have HJ6 := Lib.hid (HJB.out _ _ _ _ HJ.out HG6.out.below)
          have RR6 : Hid (Rws 0 w6.heap.size w6 _ l') := Lib.hid (Sl.mono (Sl.below RR.out rowE_loc HG6.out.below (Nat.le_refl _)) rowE_loc (Nat.le_refl _) hz6)
          have hfj : fr < j := by rw [Hfr.out, Hj.out]; exact hfi
          have hjl : j ≤ l'.length := by rw [Hj.out]; omega
          obtain ⟨vg, hvg, hrg⟩ := Sl.within RR6.out 23 Tryz.underlying23 size_RowH fr j hfj hjl
          rw [show (l'.drop fr).take (j - fr) = (runsK (fun x => pickL x at') l')[k] by rw [Hfr.out, Hj.out]; exact Hkx2.out.1] at hrg
          have Hrg := Lib.hid hrg
          obtain ⟨gp, gc, rfl, -, -, -, -⟩ := hrg.form
          clear hrg hgrp hmid hje hfi
          have fr0 : (0 : Int) ≤ (fr : Int) := by omega
          have frj : (fr : Int) ≤ (j : Int) := by omega
          gi_wp2_with fail
          refine wpIn_region_any (by kernel_rfl) ?_
          change wpAnyIn _ _ _ _ _ _ _ _ _ w6.drew
          refine wpAnyIn_take (i := 0) (v := .func (.yield L) #[] #[]) rfl rfl (by kernel_rfl) (by kernel_rfl) (by kernel_rfl) (fun _ _ _ h => h) ⟨Or.inl ⟨by rfl, fun w => by go_simp⟩, fun w => rfl⟩ ?_
          try simp only [Act.put, List.getElem_toArray, List.getElem_cons_succ, List.getElem_cons_zero, List.setIfInBounds_toArray, List.set_cons_zero, List.set_cons_succ]
          refine wpAnyIn_take (i := 1) (v := .slice (some ⟨b4, o4, none⟩) l'.length k1) rfl rfl (by kernel_rfl) (by kernel_rfl) (by kernel_rfl) (fun _ _ _ h => h) ⟨Or.inl ⟨by rfl, fun w => by go_simp⟩, fun w => rfl⟩ ?_
          try simp only [Act.put, List.getElem_toArray, List.getElem_cons_succ, List.getElem_cons_zero, List.setIfInBounds_toArray, List.set_cons_zero, List.set_cons_succ]
          refine wpAnyIn_take (i := 2) (v := .int .i64 (i : Int)) rfl rfl (by kernel_rfl) (by kernel_rfl) (by kernel_rfl) (fun _ _ _ h => h) ⟨Or.inl ⟨by rfl, fun w => by go_simp⟩, fun w => rfl⟩ ?_
          try simp only [Act.put, List.getElem_toArray, List.getElem_cons_succ, List.getElem_cons_zero, List.setIfInBounds_toArray, List.set_cons_zero, List.set_cons_succ]
          refine wpAnyIn_take (i := 3) (v := .pointer (some ⟨b4, o4 + i, none⟩)) rfl rfl (by kernel_rfl) (by kernel_rfl) (by kernel_rfl) (fun _ _ _ h => h) ⟨Or.inl ⟨by rfl, fun w => by go_simp⟩, fun w => rfl⟩ ?_
          try simp only [Act.put, List.getElem_toArray, List.getElem_cons_succ, List.getElem_cons_zero, List.setIfInBounds_toArray, List.set_cons_zero, List.set_cons_succ]
          refine wpAnyIn_take (i := 7) (v := .slice (some ⟨b4, o4, none⟩) l'.length k1) rfl rfl (by kernel_rfl) (by kernel_rfl) (by kernel_rfl) (fun _ _ _ h => h) ⟨Or.inl ⟨by rfl, fun w => by go_simp⟩, fun w => rfl⟩ ?_
          try simp only [Act.put, List.getElem_toArray, List.getElem_cons_succ, List.getElem_cons_zero, List.setIfInBounds_toArray, List.set_cons_zero, List.set_cons_succ]
          refine wpAnyIn_take (i := 8) (v := .int .i64 fr) rfl rfl (by kernel_rfl) (by kernel_rfl) (by kernel_rfl) (fun _ _ _ h => h) ⟨Or.inl ⟨by rfl, fun w => by go_simp⟩, fun w => rfl⟩ ?_
          try simp only [Act.put, List.getElem_toArray, List.getElem_cons_succ, List.getElem_cons_zero, List.setIfInBounds_toArray, List.set_cons_zero, List.set_cons_succ]
          refine wpAnyIn_take (i := 9) (v := .int .i64 (i : Int)) rfl rfl (by kernel_rfl) (by kernel_rfl) (by kernel_rfl) (fun _ _ _ h => h) ⟨Or.inl ⟨by rfl, fun w => by go_simp⟩, fun w => rfl⟩ ?_
          try simp only [Act.put, List.getElem_toArray, List.getElem_cons_succ, List.getElem_cons_zero, List.setIfInBounds_toArray, List.set_cons_zero, List.set_cons_succ]
          refine wpAnyIn_take (i := 10) (v := .int .i64 (j : Int)) rfl rfl (by kernel_rfl) (by kernel_rfl) (by kernel_rfl) (fun _ _ _ h => h) ⟨Or.inl ⟨by rfl, fun w => by go_simp⟩, fun w => rfl⟩ ?_
          try simp only [Act.put, List.getElem_toArray, List.getElem_cons_succ, List.getElem_cons_zero, List.setIfInBounds_toArray, List.set_cons_zero, List.set_cons_succ]
          refine wpAnyIn_take (i := 11) (v := .slice gp (runsK (fun x => pickL x at') l')[k].length gc) rfl rfl (by kernel_rfl) (by kernel_rfl) (by kernel_rfl) (fun _ _ _ h => h) ⟨Or.inl ⟨by rfl, fun w => by go_simp⟩, fun w => rfl⟩ ?_
          try simp only [Act.put, List.getElem_toArray, List.getElem_cons_succ, List.getElem_cons_zero, List.setIfInBounds_toArray, List.set_cons_zero, List.set_cons_succ]
          refine wpAnyIn_ready (rs := [4, 5]) (by kernel_rfl) (by simp) ?_
          refine allIn rfl (by kernel_rfl) (fun K hK => opValIn (v := .slice p2 x.length c2) (w' := w6.drew) (by have kx := G2.out w6.drew (HG6.out.drew.below); go_simp) (hK _ _ ?_)) ?_
          · try simp only [Act.put, List.getElem_toArray, List.getElem_cons_succ, List.getElem_cons_zero, List.setIfInBounds_toArray, List.set_cons_zero, List.set_cons_succ]
            refine wpAnyIn_ready (rs := [5]) (by kernel_rfl) (by simp) ?_
            refine allIn rfl (by kernel_rfl) (fun K hK => opValIn (v := .slice aa at'.length ca) (w' := w6.drew) (by have kx := ((F2.out.below HG6.out.drew.below (by omega)).cells).c1; go_simp) (hK _ _ ?_)) AllReadyIn.nil
            try simp only [Act.put, List.getElem_toArray, List.getElem_cons_succ, List.getElem_cons_zero, List.setIfInBounds_toArray, List.set_cons_zero, List.set_cons_succ]
            refine wpAnyIn_ready (rs := [6]) (by kernel_rfl) (by simp) ?_
            refine allIn rfl (by kernel_rfl) (fun K hK => opCallIn (f := 54) (args := #[.slice p2 x.length c2, .slice aa at'.length ca]) (by kernel_rfl) (key_any 0 wo.heap.size la ha x at' _ _ w6.drew (Sl.below R2.out Row1.loc HG6.out.drew.below (Nat.le_refl _)) HG6.out.drew.size (Sl.below F3.out Ints.loc HG6.out.drew.below (by omega)) (by show ha ≤ w6.heap.size; omega) Hkx.out hal _ (fun wk vk hgk hok => ?_))) AllReadyIn.nil
            obtain ⟨pk, ck, rfl⟩ := Own.slice hok
            refine ⟨_, rfl, hK _ _ ?_⟩
            clear hK
            have HGk : Hid (Gw w6 wk) := Lib.hid ((Gw.refl w6).drew.trans hgk)
            have hkk : pickL x at' = (keysL (fun x => pickL x at') l)[k] := by rw [← Hperm.out.1, Hx.out]; exact Hkx2.out.2
            have hok2 : OwnV w6.heap.size wk _ _ := hok
            rw [hkk] at hok2
            rw [hkk]
            have Hok2 := Lib.hid hok2
            clear hok2 hok hgk
            try simp only [Act.put, List.getElem_toArray, List.getElem_cons_succ, List.getElem_cons_zero, List.setIfInBounds_toArray, List.set_cons_zero, List.set_cons_succ]
            have hzk := HGk.out.size
            have HRk : Hid (Rws 0 w6.heap.size wk _ _) := Lib.hid (Sl.below Hrg.out rowE_loc HGk.out.below (Nat.le_refl _))
            obtain ⟨yf, yt, ya, yb, hy, hRy⟩ := HY.out k g w6 wk pk ck gp gc _ HJ6.out HGk.out.below (by omega) hkT Hok2.out HRk.out Hperm.out.2
            refine wpAnyIn_ready (rs := [12]) (by kernel_rfl) (by simp) ?_
            refine allIn rfl (by kernel_rfl) (fun K hK => opYieldIn (l := L) (fn := yf) (tmps := yt) (assign := ya) (body := yb) (m := m) rfl (by go_simp) hRy (fun e w' he => ?_)) AllReadyIn.nil
            clear hy hRy
            rcases he with ⟨rfl, hj2, hg2⟩ | ⟨rfl, hz2⟩
            · refine ⟨_, rfl, hK _ _ ?_⟩
              have HJ2 := Lib.hid hj2
              have Hg2 := Lib.hid hg2
              clear hj2 hK hg2
              try simp only [Act.put, List.getElem_toArray, List.getElem_cons_succ, List.getElem_cons_zero, List.setIfInBounds_toArray, List.set_cons_zero, List.set_cons_succ]
              refine wpAnyIn_take (i := 13) (v := .bool false) rfl rfl (by kernel_rfl) (by kernel_rfl) (by kernel_rfl) (fun _ _ _ h => h) ⟨Or.inl ⟨by rfl, fun w => by go_simp⟩, fun w => rfl⟩ ?_
              try simp only [Act.put, List.getElem_toArray, List.getElem_cons_succ, List.getElem_cons_zero, List.setIfInBounds_toArray, List.set_cons_zero, List.set_cons_succ]
              refine wpAnyIn_done (by kernel_rfl) ?_ _
              have HLs2 : Hid (LS W0.heap.size a b w' (.slice (some ⟨b4, o4, none⟩) l'.length k1) l') := Lib.hid (by
                have hBk := HG6.out.below.trans (HGk.out.below.mono hz6)
                have h1 := LS.same HLs.out (w' := wk) (fun g' e => hBk.block g' (LS.lt HLs.out g' e).2) (.below hBk (by omega))
                refine LS.same h1 (w' := w') (fun g' e => by rw [HG2.out g' e]; exact Hg2.out) ?_
                obtain ⟨q1, -⟩ := HJF.out _ _ _ (HJB.out _ _ _ _ HJ6.out HGk.out.below)
                obtain ⟨q2, -⟩ := HJF.out _ _ _ HJ2.out
                exact fun k h1 h2 => (q2 k h1 h2).trans (q1 k h1 h2).symm)
              gi_wp2_with fail
              go_roundw
              case rel => exact ⟨k + 1, j, j, rfl, by first | rfl | go_num, by omega, Hje, Lib.hid (by rw [Hj.out]; exact Hmid.out), HLs2, HJ2⟩
              case measure => have := Hj.out; simp [intOf]; omega
            · refine ⟨_, rfl, hK _ _ ?_⟩
              have HZ2 := Lib.hid hz2
              clear hz2 hK
              try simp only [Act.put, List.getElem_toArray, List.getElem_cons_succ, List.getElem_cons_zero, List.setIfInBounds_toArray, List.set_cons_zero, List.set_cons_succ]
              refine wpAnyIn_take (i := 13) (v := .bool true) rfl rfl (by kernel_rfl) (by kernel_rfl) (by kernel_rfl) (fun _ _ _ h => h) ⟨Or.inl ⟨by rfl, fun w => by go_simp⟩, fun w => rfl⟩ ?_
              try simp only [Act.put, List.getElem_toArray, List.getElem_cons_succ, List.getElem_cons_zero, List.setIfInBounds_toArray, List.set_cons_zero, List.set_cons_succ]
              refine wpAnyIn_done (by kernel_rfl) ?_ _
              gi_wp2_with fail
              simp only [Exit.noGoto]
              exact bodyPost_ret (results_none rfl _ _ _) rfl ⟨⟨_, rfl⟩, .inr HZ2.out⟩
          refine allIn rfl (by kernel_rfl) (fun K hK => opValIn (v := .slice aa at'.length ca) (w' := w6.drew) (by have kx := ((F2.out.below HG6.out.drew.below (by omega)).cells).c1; go_simp) (hK _ _ ?_)) AllReadyIn.nil
          try simp only [Act.put, List.getElem_toArray, List.getElem_cons_succ, List.getElem_cons_zero, List.setIfInBounds_toArray, List.set_cons_zero, List.set_cons_succ]
          refine wpAnyIn_ready (rs := [4]) (by kernel_rfl) (by simp) ?_
          refine allIn rfl (by kernel_rfl) (fun K hK => opValIn (v := .slice p2 x.length c2) (w' := w6.drew) (by have kx := G2.out w6.drew (HG6.out.drew.below); go_simp) (hK _ _ ?_)) AllReadyIn.nil
          try simp only [Act.put, List.getElem_toArray, List.getElem_cons_succ, List.getElem_cons_zero, List.setIfInBounds_toArray, List.set_cons_zero, List.set_cons_succ]
          refine wpAnyIn_ready (rs := [6]) (by kernel_rfl) (by simp) ?_
          refine allIn rfl (by kernel_rfl) (fun K hK => opCallIn (f := 54) (args := #[.slice p2 x.length c2, .slice aa at'.length ca]) (by kernel_rfl) (key_any 0 wo.heap.size la ha x at' _ _ w6.drew (Sl.below R2.out Row1.loc HG6.out.drew.below (Nat.le_refl _)) HG6.out.drew.size (Sl.below F3.out Ints.loc HG6.out.drew.below (by omega)) (by show ha ≤ w6.heap.size; omega) Hkx.out hal _ (fun wk vk hgk hok => ?_))) AllReadyIn.nil
          obtain ⟨pk, ck, rfl⟩ := Own.slice hok
          refine ⟨_, rfl, hK _ _ ?_⟩
          clear hK
          have HGk : Hid (Gw w6 wk) := Lib.hid ((Gw.refl w6).drew.trans hgk)
          have hkk : pickL x at' = (keysL (fun x => pickL x at') l)[k] := by rw [← Hperm.out.1, Hx.out]; exact Hkx2.out.2
          have hok2 : OwnV w6.heap.size wk _ _ := hok
          rw [hkk] at hok2
          rw [hkk]
          have Hok2 := Lib.hid hok2
          clear hok2 hok hgk
          try simp only [Act.put, List.getElem_toArray, List.getElem_cons_succ, List.getElem_cons_zero, List.setIfInBounds_toArray, List.set_cons_zero, List.set_cons_succ]
          have hzk := HGk.out.size
          have HRk : Hid (Rws 0 w6.heap.size wk _ _) := Lib.hid (Sl.below Hrg.out rowE_loc HGk.out.below (Nat.le_refl _))
          obtain ⟨yf, yt, ya, yb, hy, hRy⟩ := HY.out k g w6 wk pk ck gp gc _ HJ6.out HGk.out.below (by omega) hkT Hok2.out HRk.out Hperm.out.2
          refine wpAnyIn_ready (rs := [12]) (by kernel_rfl) (by simp) ?_
          refine allIn rfl (by kernel_rfl) (fun K hK => opYieldIn (l := L) (fn := yf) (tmps := yt) (assign := ya) (body := yb) (m := m) rfl (by go_simp) hRy (fun e w' he => ?_)) AllReadyIn.nil
          clear hy hRy
          rcases he with ⟨rfl, hj2, hg2⟩ | ⟨rfl, hz2⟩
          · refine ⟨_, rfl, hK _ _ ?_⟩
            have HJ2 := Lib.hid hj2
            have Hg2 := Lib.hid hg2
            clear hj2 hK hg2
            try simp only [Act.put, List.getElem_toArray, List.getElem_cons_succ, List.getElem_cons_zero, List.setIfInBounds_toArray, List.set_cons_zero, List.set_cons_succ]
            refine wpAnyIn_take (i := 13) (v := .bool false) rfl rfl (by kernel_rfl) (by kernel_rfl) (by kernel_rfl) (fun _ _ _ h => h) ⟨Or.inl ⟨by rfl, fun w => by go_simp⟩, fun w => rfl⟩ ?_
            try simp only [Act.put, List.getElem_toArray, List.getElem_cons_succ, List.getElem_cons_zero, List.setIfInBounds_toArray, List.set_cons_zero, List.set_cons_succ]
            refine wpAnyIn_done (by kernel_rfl) ?_ _
            have HLs2 : Hid (LS W0.heap.size a b w' (.slice (some ⟨b4, o4, none⟩) l'.length k1) l') := Lib.hid (by
              have hBk := HG6.out.below.trans (HGk.out.below.mono hz6)
              have h1 := LS.same HLs.out (w' := wk) (fun g' e => hBk.block g' (LS.lt HLs.out g' e).2) (.below hBk (by omega))
              refine LS.same h1 (w' := w') (fun g' e => by rw [HG2.out g' e]; exact Hg2.out) ?_
              obtain ⟨q1, -⟩ := HJF.out _ _ _ (HJB.out _ _ _ _ HJ6.out HGk.out.below)
              obtain ⟨q2, -⟩ := HJF.out _ _ _ HJ2.out
              exact fun k h1 h2 => (q2 k h1 h2).trans (q1 k h1 h2).symm)
            gi_wp2_with fail
            go_roundw
            case rel => exact ⟨k + 1, j, j, rfl, by first | rfl | go_num, by omega, Hje, Lib.hid (by rw [Hj.out]; exact Hmid.out), HLs2, HJ2⟩
            case measure => have := Hj.out; simp [intOf]; omega
          · refine ⟨_, rfl, hK _ _ ?_⟩
            have HZ2 := Lib.hid hz2
            clear hz2 hK
            try simp only [Act.put, List.getElem_toArray, List.getElem_cons_succ, List.getElem_cons_zero, List.setIfInBounds_toArray, List.set_cons_zero, List.set_cons_succ]
            refine wpAnyIn_take (i := 13) (v := .bool true) rfl rfl (by kernel_rfl) (by kernel_rfl) (by kernel_rfl) (fun _ _ _ h => h) ⟨Or.inl ⟨by rfl, fun w => by go_simp⟩, fun w => rfl⟩ ?_
            try simp only [Act.put, List.getElem_toArray, List.getElem_cons_succ, List.getElem_cons_zero, List.setIfInBounds_toArray, List.set_cons_zero, List.set_cons_succ]
            refine wpAnyIn_done (by kernel_rfl) ?_ _
            gi_wp2_with fail
            simp only [Exit.noGoto]
            exact bodyPost_ret (results_none rfl _ _ _) rfl ⟨⟨_, rfl⟩, .inr HZ2.out⟩
      · have jjl : ¬ (j : Int) < (l'.length : Int) := by omega
        have HC2 : Hid (∀ h : i + 1 < l'.length, cmpR ((fun x => pickL x at') l'[i]) ((fun x => pickL x at') l'[i + 1]) ≠ 0) := Lib.hid (fun h => absurd h (by have := Hj.out; omega))
        refine wpIn_wide.2 ?_
        refine wp_region_held_drew (S := fun w' => Gw wo w') (by kernel_rfl) ((Gw.refl _).drew) (fun hHeld => ?_)
        refine wpAnyH_take (i := 0) (v := .int .i64 ((i : Int))) rfl (by kernel_rfl) (by kernel_rfl) (by kernel_rfl) (fun _ _ _ h => h) (Or.inl ⟨by rfl, ?_⟩) hHeld ?_
        · intro w' hSw; go_simp
        try simp only [Act.put, List.getElem_toArray, List.getElem_cons_succ, List.getElem_cons_zero, List.setIfInBounds_toArray, List.set_cons_zero, List.set_cons_succ]
        refine wpAnyH_take (i := 1) (v := .int .i64 ((j : Int))) rfl (by kernel_rfl) (by kernel_rfl) (by kernel_rfl) (fun _ _ _ h => h) (Or.inl ⟨by rfl, ?_⟩) hHeld ?_
        · intro w' hSw; go_simp
        try simp only [Act.put, List.getElem_toArray, List.getElem_cons_succ, List.getElem_cons_zero, List.setIfInBounds_toArray, List.set_cons_zero, List.set_cons_succ]
        refine wpAnyH_take (i := 2) (v := .slice (some ⟨b4, o4, none⟩) l'.length k1) rfl (by kernel_rfl) (by kernel_rfl) (by kernel_rfl) (fun _ _ _ h => h) (Or.inl ⟨by rfl, ?_⟩) hHeld ?_
        · intro w' hSw; go_simp
        try simp only [Act.put, List.getElem_toArray, List.getElem_cons_succ, List.getElem_cons_zero, List.setIfInBounds_toArray, List.set_cons_zero, List.set_cons_succ]
        refine wpAnyH_take (i := 3) (v := .int .i64 ((l'.length : Int))) rfl (by kernel_rfl) (by kernel_rfl) (by kernel_rfl) (fun _ _ _ h => h) (Or.inl ⟨by rfl, ?_⟩) hHeld ?_
        · intro w' hSw; go_simp
        try simp only [Act.put, List.getElem_toArray, List.getElem_cons_succ, List.getElem_cons_zero, List.setIfInBounds_toArray, List.set_cons_zero, List.set_cons_succ]
        refine wpAnyH_take (i := 4) (v := .bool false) rfl (by kernel_rfl) (by kernel_rfl) (by kernel_rfl) (fun _ _ _ h => h) (Or.inl ⟨by rfl, ?_⟩) hHeld ?_
        · intro w' hSw; go_simp
        try simp only [Act.put, List.getElem_toArray, List.getElem_cons_succ, List.getElem_cons_zero, List.setIfInBounds_toArray, List.set_cons_zero, List.set_cons_succ]
        refine wpAnyH_take (i := 5) (v := .bool false) rfl (by kernel_rfl) (by kernel_rfl) (by kernel_rfl) (fun _ _ _ h => h) (Or.inl ⟨by rfl, ?_⟩) hHeld ?_
        · intro w' hSw; go_simp
        try simp only [Act.put, List.getElem_toArray, List.getElem_cons_succ, List.getElem_cons_zero, List.setIfInBounds_toArray, List.set_cons_zero, List.set_cons_succ]
        refine wpAnyH_take (i := 6) (v := undef) rfl (by kernel_rfl) (by kernel_rfl) (by kernel_rfl) (fun _ _ _ h => h) (Or.inr ⟨by kernel_rfl, rfl⟩) hHeld ?_
        try simp only [Act.put, List.getElem_toArray, List.getElem_cons_succ, List.getElem_cons_zero, List.setIfInBounds_toArray, List.set_cons_zero, List.set_cons_succ]
        refine wpAnyH_take (i := 7) (v := undef) rfl (by kernel_rfl) (by kernel_rfl) (by kernel_rfl) (fun _ _ _ h => h) (Or.inr ⟨by kernel_rfl, rfl⟩) hHeld ?_
        try simp only [Act.put, List.getElem_toArray, List.getElem_cons_succ, List.getElem_cons_zero, List.setIfInBounds_toArray, List.set_cons_zero, List.set_cons_succ]
        refine wpAnyH_take (i := 8) (v := undef) rfl (by kernel_rfl) (by kernel_rfl) (by kernel_rfl) (fun _ _ _ h => h) (Or.inr ⟨by kernel_rfl, rfl⟩) hHeld ?_
        try simp only [Act.put, List.getElem_toArray, List.getElem_cons_succ, List.getElem_cons_zero, List.setIfInBounds_toArray, List.set_cons_zero, List.set_cons_succ]
        refine wpAnyH_take (i := 9) (v := undef) rfl (by kernel_rfl) (by kernel_rfl) (by kernel_rfl) (fun _ _ _ h => h) (Or.inr ⟨by kernel_rfl, rfl⟩) hHeld ?_
        try simp only [Act.put, List.getElem_toArray, List.getElem_cons_succ, List.getElem_cons_zero, List.setIfInBounds_toArray, List.set_cons_zero, List.set_cons_succ]
        refine wpAnyH_take (i := 10) (v := undef) rfl (by kernel_rfl) (by kernel_rfl) (by kernel_rfl) (fun _ _ _ h => h) (Or.inr ⟨by kernel_rfl, rfl⟩) hHeld ?_
        try simp only [Act.put, List.getElem_toArray, List.getElem_cons_succ, List.getElem_cons_zero, List.setIfInBounds_toArray, List.set_cons_zero, List.set_cons_succ]
        refine wpAnyH_take (i := 11) (v := undef) rfl (by kernel_rfl) (by kernel_rfl) (by kernel_rfl) (fun _ _ _ h => h) (Or.inr ⟨by kernel_rfl, rfl⟩) hHeld ?_
        try simp only [Act.put, List.getElem_toArray, List.getElem_cons_succ, List.getElem_cons_zero, List.setIfInBounds_toArray, List.set_cons_zero, List.set_cons_succ]
        refine wpAnyH_take (i := 12) (v := undef) rfl (by kernel_rfl) (by kernel_rfl) (by kernel_rfl) (fun _ _ _ h => h) (Or.inr ⟨by kernel_rfl, rfl⟩) hHeld ?_
        try simp only [Act.put, List.getElem_toArray, List.getElem_cons_succ, List.getElem_cons_zero, List.setIfInBounds_toArray, List.set_cons_zero, List.set_cons_succ]
        refine wpAnyH_take (i := 13) (v := undef) rfl (by kernel_rfl) (by kernel_rfl) (by kernel_rfl) (fun _ _ _ h => h) (Or.inr ⟨by kernel_rfl, rfl⟩) hHeld ?_
        try simp only [Act.put, List.getElem_toArray, List.getElem_cons_succ, List.getElem_cons_zero, List.setIfInBounds_toArray, List.set_cons_zero, List.set_cons_succ]
        refine wpAnyH_take (i := 14) (v := undef) rfl (by kernel_rfl) (by kernel_rfl) (by kernel_rfl) (fun _ _ _ h => h) (Or.inr ⟨by kernel_rfl, rfl⟩) hHeld ?_
        try simp only [Act.put, List.getElem_toArray, List.getElem_cons_succ, List.getElem_cons_zero, List.setIfInBounds_toArray, List.set_cons_zero, List.set_cons_succ]
        refine wpAnyH_take (i := 15) (v := undef) rfl (by kernel_rfl) (by kernel_rfl) (by kernel_rfl) (fun _ _ _ h => h) (Or.inr ⟨by kernel_rfl, rfl⟩) hHeld ?_
        try simp only [Act.put, List.getElem_toArray, List.getElem_cons_succ, List.getElem_cons_zero, List.setIfInBounds_toArray, List.set_cons_zero, List.set_cons_succ]
        refine wpAnyH_take (i := 16) (v := undef) rfl (by kernel_rfl) (by kernel_rfl) (by kernel_rfl) (fun _ _ _ h => h) (Or.inr ⟨by kernel_rfl, rfl⟩) hHeld ?_
        try simp only [Act.put, List.getElem_toArray, List.getElem_cons_succ, List.getElem_cons_zero, List.setIfInBounds_toArray, List.set_cons_zero, List.set_cons_succ]
        refine wpAnyH_take (i := 17) (v := undef) rfl (by kernel_rfl) (by kernel_rfl) (by kernel_rfl) (fun _ _ _ h => h) (Or.inr ⟨by kernel_rfl, rfl⟩) hHeld ?_
        try simp only [Act.put, List.getElem_toArray, List.getElem_cons_succ, List.getElem_cons_zero, List.setIfInBounds_toArray, List.set_cons_zero, List.set_cons_succ]
        refine wpAnyH_take (i := 18) (v := undef) rfl (by kernel_rfl) (by kernel_rfl) (by kernel_rfl) (fun _ _ _ h => h) (Or.inr ⟨by kernel_rfl, rfl⟩) hHeld ?_
        try simp only [Act.put, List.getElem_toArray, List.getElem_cons_succ, List.getElem_cons_zero, List.setIfInBounds_toArray, List.set_cons_zero, List.set_cons_succ]
        refine wpAnyH_take (i := 19) (v := undef) rfl (by kernel_rfl) (by kernel_rfl) (by kernel_rfl) (fun _ _ _ h => h) (Or.inr ⟨by kernel_rfl, rfl⟩) hHeld ?_
        try simp only [Act.put, List.getElem_toArray, List.getElem_cons_succ, List.getElem_cons_zero, List.setIfInBounds_toArray, List.set_cons_zero, List.set_cons_succ]
        refine wpAnyH_take (i := 20) (v := undef) rfl (by kernel_rfl) (by kernel_rfl) (by kernel_rfl) (fun _ _ _ h => h) (Or.inr ⟨by kernel_rfl, rfl⟩) hHeld ?_
        try simp only [Act.put, List.getElem_toArray, List.getElem_cons_succ, List.getElem_cons_zero, List.setIfInBounds_toArray, List.set_cons_zero, List.set_cons_succ]
        refine wpAnyH_take (i := 21) (v := .bool false) rfl (by kernel_rfl) (by kernel_rfl) (by kernel_rfl) (fun _ _ _ h => h) (Or.inl ⟨by rfl, ?_⟩) hHeld ?_
        · intro w' hSw; go_simp
        try simp only [Act.put, List.getElem_toArray, List.getElem_cons_succ, List.getElem_cons_zero, List.setIfInBounds_toArray, List.set_cons_zero, List.set_cons_succ]
        refine wpAnyH_done (by kernel_rfl) ?_ _
        clear hHeld
        obtain ⟨w6, ew6⟩ : ∃ x, x = wo.drew := ⟨_, rfl⟩
        have HG6 : Hid (Gw wo w6) := Lib.hid (by rw [ew6]; exact (Gw.refl _).drew)
        rw [← ew6]
        clear ew6
        gi_wp2_with fail
        obtain ⟨hkG, hfi, hje, hmid, hgrp⟩ := HM.out.cut HS.out hlt HC2.out
        have hkT : k < (keysL (fun x => pickL x at') l).length := by rw [← HT.out]; exact hkG
        have Hkx2 := Lib.hid (hgrp hkG)
        have Hperm := Lib.hid (runsK_perm (fun x => pickL x at') HS.out HP.out k hkG hkT)
        have Hmid := Lib.hid hmid
        have Hje := Lib.hid (Hj.out.trans hje)
        have hz6 := HG6.out.size
        have HJ6 := Lib.hid (HJB.out _ _ _ _ HJ.out HG6.out.below)
        have RR6 : Hid (Rws 0 w6.heap.size w6 _ l') := Lib.hid (Sl.mono (Sl.below RR.out rowE_loc HG6.out.below (Nat.le_refl _)) rowE_loc (Nat.le_refl _) hz6)
        have hfj : fr < j := by rw [Hfr.out, Hj.out]; exact hfi
        have hjl : j ≤ l'.length := by rw [Hj.out]; omega
        obtain ⟨vg, hvg, hrg⟩ := Sl.within RR6.out 23 Tryz.underlying23 size_RowH fr j hfj hjl
        rw [show (l'.drop fr).take (j - fr) = (runsK (fun x => pickL x at') l')[k] by rw [Hfr.out, Hj.out]; exact Hkx2.out.1] at hrg
        have Hrg := Lib.hid hrg
        obtain ⟨gp, gc, rfl, -, -, -, -⟩ := hrg.form
        clear hrg hgrp hmid hje hfi
        have fr0 : (0 : Int) ≤ (fr : Int) := by omega
        have frj : (fr : Int) ≤ (j : Int) := by omega
        gi_wp2_with fail
        refine wpIn_region_any (by kernel_rfl) ?_
        change wpAnyIn _ _ _ _ _ _ _ _ _ w6.drew
        refine wpAnyIn_take (i := 0) (v := .func (.yield L) #[] #[]) rfl rfl (by kernel_rfl) (by kernel_rfl) (by kernel_rfl) (fun _ _ _ h => h) ⟨Or.inl ⟨by rfl, fun w => by go_simp⟩, fun w => rfl⟩ ?_
        try simp only [Act.put, List.getElem_toArray, List.getElem_cons_succ, List.getElem_cons_zero, List.setIfInBounds_toArray, List.set_cons_zero, List.set_cons_succ]
        refine wpAnyIn_take (i := 1) (v := .slice (some ⟨b4, o4, none⟩) l'.length k1) rfl rfl (by kernel_rfl) (by kernel_rfl) (by kernel_rfl) (fun _ _ _ h => h) ⟨Or.inl ⟨by rfl, fun w => by go_simp⟩, fun w => rfl⟩ ?_
        try simp only [Act.put, List.getElem_toArray, List.getElem_cons_succ, List.getElem_cons_zero, List.setIfInBounds_toArray, List.set_cons_zero, List.set_cons_succ]
        refine wpAnyIn_take (i := 2) (v := .int .i64 (i : Int)) rfl rfl (by kernel_rfl) (by kernel_rfl) (by kernel_rfl) (fun _ _ _ h => h) ⟨Or.inl ⟨by rfl, fun w => by go_simp⟩, fun w => rfl⟩ ?_
        try simp only [Act.put, List.getElem_toArray, List.getElem_cons_succ, List.getElem_cons_zero, List.setIfInBounds_toArray, List.set_cons_zero, List.set_cons_succ]
        refine wpAnyIn_take (i := 3) (v := .pointer (some ⟨b4, o4 + i, none⟩)) rfl rfl (by kernel_rfl) (by kernel_rfl) (by kernel_rfl) (fun _ _ _ h => h) ⟨Or.inl ⟨by rfl, fun w => by go_simp⟩, fun w => rfl⟩ ?_
        try simp only [Act.put, List.getElem_toArray, List.getElem_cons_succ, List.getElem_cons_zero, List.setIfInBounds_toArray, List.set_cons_zero, List.set_cons_succ]
        refine wpAnyIn_take (i := 7) (v := .slice (some ⟨b4, o4, none⟩) l'.length k1) rfl rfl (by kernel_rfl) (by kernel_rfl) (by kernel_rfl) (fun _ _ _ h => h) ⟨Or.inl ⟨by rfl, fun w => by go_simp⟩, fun w => rfl⟩ ?_
        try simp only [Act.put, List.getElem_toArray, List.getElem_cons_succ, List.getElem_cons_zero, List.setIfInBounds_toArray, List.set_cons_zero, List.set_cons_succ]
        refine wpAnyIn_take (i := 8) (v := .int .i64 fr) rfl rfl (by kernel_rfl) (by kernel_rfl) (by kernel_rfl) (fun _ _ _ h => h) ⟨Or.inl ⟨by rfl, fun w => by go_simp⟩, fun w => rfl⟩ ?_
        try simp only [Act.put, List.getElem_toArray, List.getElem_cons_succ, List.getElem_cons_zero, List.setIfInBounds_toArray, List.set_cons_zero, List.set_cons_succ]
        refine wpAnyIn_take (i := 9) (v := .int .i64 (i : Int)) rfl rfl (by kernel_rfl) (by kernel_rfl) (by kernel_rfl) (fun _ _ _ h => h) ⟨Or.inl ⟨by rfl, fun w => by go_simp⟩, fun w => rfl⟩ ?_
        try simp only [Act.put, List.getElem_toArray, List.getElem_cons_succ, List.getElem_cons_zero, List.setIfInBounds_toArray, List.set_cons_zero, List.set_cons_succ]
        refine wpAnyIn_take (i := 10) (v := .int .i64 (j : Int)) rfl rfl (by kernel_rfl) (by kernel_rfl) (by kernel_rfl) (fun _ _ _ h => h) ⟨Or.inl ⟨by rfl, fun w => by go_simp⟩, fun w => rfl⟩ ?_
        try simp only [Act.put, List.getElem_toArray, List.getElem_cons_succ, List.getElem_cons_zero, List.setIfInBounds_toArray, List.set_cons_zero, List.set_cons_succ]
        refine wpAnyIn_take (i := 11) (v := .slice gp (runsK (fun x => pickL x at') l')[k].length gc) rfl rfl (by kernel_rfl) (by kernel_rfl) (by kernel_rfl) (fun _ _ _ h => h) ⟨Or.inl ⟨by rfl, fun w => by go_simp⟩, fun w => rfl⟩ ?_
        try simp only [Act.put, List.getElem_toArray, List.getElem_cons_succ, List.getElem_cons_zero, List.setIfInBounds_toArray, List.set_cons_zero, List.set_cons_succ]
        refine wpAnyIn_ready (rs := [4, 5]) (by kernel_rfl) (by simp) ?_
        refine allIn rfl (by kernel_rfl) (fun K hK => opValIn (v := .slice p2 x.length c2) (w' := w6.drew) (by have kx := G2.out w6.drew (HG6.out.drew.below); go_simp) (hK _ _ ?_)) ?_
        · try simp only [Act.put, List.getElem_toArray, List.getElem_cons_succ, List.getElem_cons_zero, List.setIfInBounds_toArray, List.set_cons_zero, List.set_cons_succ]
          refine wpAnyIn_ready (rs := [5]) (by kernel_rfl) (by simp) ?_
          refine allIn rfl (by kernel_rfl) (fun K hK => opValIn (v := .slice aa at'.length ca) (w' := w6.drew) (by have kx := ((F2.out.below HG6.out.drew.below (by omega)).cells).c1; go_simp) (hK _ _ ?_)) AllReadyIn.nil
          try simp only [Act.put, List.getElem_toArray, List.getElem_cons_succ, List.getElem_cons_zero, List.setIfInBounds_toArray, List.set_cons_zero, List.set_cons_succ]
          refine wpAnyIn_ready (rs := [6]) (by kernel_rfl) (by simp) ?_
          refine allIn rfl (by kernel_rfl) (fun K hK => opCallIn (f := 54) (args := #[.slice p2 x.length c2, .slice aa at'.length ca]) (by kernel_rfl) (key_any 0 wo.heap.size la ha x at' _ _ w6.drew (Sl.below R2.out Row1.loc HG6.out.drew.below (Nat.le_refl _)) HG6.out.drew.size (Sl.below F3.out Ints.loc HG6.out.drew.below (by omega)) (by show ha ≤ w6.heap.size; omega) Hkx.out hal _ (fun wk vk hgk hok => ?_))) AllReadyIn.nil
          obtain ⟨pk, ck, rfl⟩ := Own.slice hok
          refine ⟨_, rfl, hK _ _ ?_⟩
          clear hK
          have HGk : Hid (Gw w6 wk) := Lib.hid ((Gw.refl w6).drew.trans hgk)
          have hkk : pickL x at' = (keysL (fun x => pickL x at') l)[k] := by rw [← Hperm.out.1, Hx.out]; exact Hkx2.out.2
          have hok2 : OwnV w6.heap.size wk _ _ := hok
          rw [hkk] at hok2
          rw [hkk]
          have Hok2 := Lib.hid hok2
          clear hok2 hok hgk
          try simp only [Act.put, List.getElem_toArray, List.getElem_cons_succ, List.getElem_cons_zero, List.setIfInBounds_toArray, List.set_cons_zero, List.set_cons_succ]
          have hzk := HGk.out.size
          have HRk : Hid (Rws 0 w6.heap.size wk _ _) := Lib.hid (Sl.below Hrg.out rowE_loc HGk.out.below (Nat.le_refl _))
          obtain ⟨yf, yt, ya, yb, hy, hRy⟩ := HY.out k g w6 wk pk ck gp gc _ HJ6.out HGk.out.below (by omega) hkT Hok2.out HRk.out Hperm.out.2
          refine wpAnyIn_ready (rs := [12]) (by kernel_rfl) (by simp) ?_
          refine allIn rfl (by kernel_rfl) (fun K hK => opYieldIn (l := L) (fn := yf) (tmps := yt) (assign := ya) (body := yb) (m := m) rfl (by go_simp) hRy (fun e w' he => ?_)) AllReadyIn.nil
          clear hy hRy
          rcases he with ⟨rfl, hj2, hg2⟩ | ⟨rfl, hz2⟩
          · refine ⟨_, rfl, hK _ _ ?_⟩
            have HJ2 := Lib.hid hj2
            have Hg2 := Lib.hid hg2
            clear hj2 hK hg2
            try simp only [Act.put, List.getElem_toArray, List.getElem_cons_succ, List.getElem_cons_zero, List.setIfInBounds_toArray, List.set_cons_zero, List.set_cons_succ]
            refine wpAnyIn_take (i := 13) (v := .bool false) rfl rfl (by kernel_rfl) (by kernel_rfl) (by kernel_rfl) (fun _ _ _ h => h) ⟨Or.inl ⟨by rfl, fun w => by go_simp⟩, fun w => rfl⟩ ?_
            try simp only [Act.put, List.getElem_toArray, List.getElem_cons_succ, List.getElem_cons_zero, List.setIfInBounds_toArray, List.set_cons_zero, List.set_cons_succ]
            refine wpAnyIn_done (by kernel_rfl) ?_ _
            have HLs2 : Hid (LS W0.heap.size a b w' (.slice (some ⟨b4, o4, none⟩) l'.length k1) l') := Lib.hid (by
              have hBk := HG6.out.below.trans (HGk.out.below.mono hz6)
              have h1 := LS.same HLs.out (w' := wk) (fun g' e => hBk.block g' (LS.lt HLs.out g' e).2) (.below hBk (by omega))
              refine LS.same h1 (w' := w') (fun g' e => by rw [HG2.out g' e]; exact Hg2.out) ?_
              obtain ⟨q1, -⟩ := HJF.out _ _ _ (HJB.out _ _ _ _ HJ6.out HGk.out.below)
              obtain ⟨q2, -⟩ := HJF.out _ _ _ HJ2.out
              exact fun k h1 h2 => (q2 k h1 h2).trans (q1 k h1 h2).symm)
            gi_wp2_with fail
            go_roundw
            case rel => exact ⟨k + 1, j, j, rfl, by first | rfl | go_num, by omega, Hje, Lib.hid (by rw [Hj.out]; exact Hmid.out), HLs2, HJ2⟩
            case measure => have := Hj.out; simp [intOf]; omega
          · refine ⟨_, rfl, hK _ _ ?_⟩
            have HZ2 := Lib.hid hz2
            clear hz2 hK
            try simp only [Act.put, List.getElem_toArray, List.getElem_cons_succ, List.getElem_cons_zero, List.setIfInBounds_toArray, List.set_cons_zero, List.set_cons_succ]
            refine wpAnyIn_take (i := 13) (v := .bool true) rfl rfl (by kernel_rfl) (by kernel_rfl) (by kernel_rfl) (fun _ _ _ h => h) ⟨Or.inl ⟨by rfl, fun w => by go_simp⟩, fun w => rfl⟩ ?_
            try simp only [Act.put, List.getElem_toArray, List.getElem_cons_succ, List.getElem_cons_zero, List.setIfInBounds_toArray, List.set_cons_zero, List.set_cons_succ]
            refine wpAnyIn_done (by kernel_rfl) ?_ _
            gi_wp2_with fail
            simp only [Exit.noGoto]
            exact bodyPost_ret (results_none rfl _ _ _) rfl ⟨⟨_, rfl⟩, .inr HZ2.out⟩
        refine allIn rfl (by kernel_rfl) (fun K hK => opValIn (v := .slice aa at'.length ca) (w' := w6.drew) (by have kx := ((F2.out.below HG6.out.drew.below (by omega)).cells).c1; go_simp) (hK _ _ ?_)) AllReadyIn.nil
        try simp only [Act.put, List.getElem_toArray, List.getElem_cons_succ, List.getElem_cons_zero, List.setIfInBounds_toArray, List.set_cons_zero, List.set_cons_succ]
        refine wpAnyIn_ready (rs := [4]) (by kernel_rfl) (by simp) ?_
        refine allIn rfl (by kernel_rfl) (fun K hK => opValIn (v := .slice p2 x.length c2) (w' := w6.drew) (by have kx := G2.out w6.drew (HG6.out.drew.below); go_simp) (hK _ _ ?_)) AllReadyIn.nil
        try simp only [Act.put, List.getElem_toArray, List.getElem_cons_succ, List.getElem_cons_zero, List.setIfInBounds_toArray, List.set_cons_zero, List.set_cons_succ]
        refine wpAnyIn_ready (rs := [6]) (by kernel_rfl) (by simp) ?_
        refine allIn rfl (by kernel_rfl) (fun K hK => opCallIn (f := 54) (args := #[.slice p2 x.length c2, .slice aa at'.length ca]) (by kernel_rfl) (key_any 0 wo.heap.size la ha x at' _ _ w6.drew (Sl.below R2.out Row1.loc HG6.out.drew.below (Nat.le_refl _)) HG6.out.drew.size (Sl.below F3.out Ints.loc HG6.out.drew.below (by omega)) (by show ha ≤ w6.heap.size; omega) Hkx.out hal _ (fun wk vk hgk hok => ?_))) AllReadyIn.nil
        obtain ⟨pk, ck, rfl⟩ := Own.slice hok
        refine ⟨_, rfl, hK _ _ ?_⟩
        clear hK
        have HGk : Hid (Gw w6 wk) := Lib.hid ((Gw.refl w6).drew.trans hgk)
        have hkk : pickL x at' = (keysL (fun x => pickL x at') l)[k] := by rw [← Hperm.out.1, Hx.out]; exact Hkx2.out.2
        have hok2 : OwnV w6.heap.size wk _ _ := hok
        rw [hkk] at hok2
        rw [hkk]
        have Hok2 := Lib.hid hok2
        clear hok2 hok hgk
        try simp only [Act.put, List.getElem_toArray, List.getElem_cons_succ, List.getElem_cons_zero, List.setIfInBounds_toArray, List.set_cons_zero, List.set_cons_succ]
        have hzk := HGk.out.size
        have HRk : Hid (Rws 0 w6.heap.size wk _ _) := Lib.hid (Sl.below Hrg.out rowE_loc HGk.out.below (Nat.le_refl _))
        obtain ⟨yf, yt, ya, yb, hy, hRy⟩ := HY.out k g w6 wk pk ck gp gc _ HJ6.out HGk.out.below (by omega) hkT Hok2.out HRk.out Hperm.out.2
        refine wpAnyIn_ready (rs := [12]) (by kernel_rfl) (by simp) ?_
        refine allIn rfl (by kernel_rfl) (fun K hK => opYieldIn (l := L) (fn := yf) (tmps := yt) (assign := ya) (body := yb) (m := m) rfl (by go_simp) hRy (fun e w' he => ?_)) AllReadyIn.nil
        clear hy hRy
        rcases he with ⟨rfl, hj2, hg2⟩ | ⟨rfl, hz2⟩
        · refine ⟨_, rfl, hK _ _ ?_⟩
          have HJ2 := Lib.hid hj2
          have Hg2 := Lib.hid hg2
          clear hj2 hK hg2
          try simp only [Act.put, List.getElem_toArray, List.getElem_cons_succ, List.getElem_cons_zero, List.setIfInBounds_toArray, List.set_cons_zero, List.set_cons_succ]
          refine wpAnyIn_take (i := 13) (v := .bool false) rfl rfl (by kernel_rfl) (by kernel_rfl) (by kernel_rfl) (fun _ _ _ h => h) ⟨Or.inl ⟨by rfl, fun w => by go_simp⟩, fun w => rfl⟩ ?_
          try simp only [Act.put, List.getElem_toArray, List.getElem_cons_succ, List.getElem_cons_zero, List.setIfInBounds_toArray, List.set_cons_zero, List.set_cons_succ]
          refine wpAnyIn_done (by kernel_rfl) ?_ _
          have HLs2 : Hid (LS W0.heap.size a b w' (.slice (some ⟨b4, o4, none⟩) l'.length k1) l') := Lib.hid (by
            have hBk := HG6.out.below.trans (HGk.out.below.mono hz6)
            have h1 := LS.same HLs.out (w' := wk) (fun g' e => hBk.block g' (LS.lt HLs.out g' e).2) (.below hBk (by omega))
            refine LS.same h1 (w' := w') (fun g' e => by rw [HG2.out g' e]; exact Hg2.out) ?_
            obtain ⟨q1, -⟩ := HJF.out _ _ _ (HJB.out _ _ _ _ HJ6.out HGk.out.below)
            obtain ⟨q2, -⟩ := HJF.out _ _ _ HJ2.out
            exact fun k h1 h2 => (q2 k h1 h2).trans (q1 k h1 h2).symm)
          gi_wp2_with fail
          go_roundw
          case rel => exact ⟨k + 1, j, j, rfl, by first | rfl | go_num, by omega, Hje, Lib.hid (by rw [Hj.out]; exact Hmid.out), HLs2, HJ2⟩
          case measure => have := Hj.out; simp [intOf]; omega
        · refine ⟨_, rfl, hK _ _ ?_⟩
          have HZ2 := Lib.hid hz2
          clear hz2 hK
          try simp only [Act.put, List.getElem_toArray, List.getElem_cons_succ, List.getElem_cons_zero, List.setIfInBounds_toArray, List.set_cons_zero, List.set_cons_succ]
          refine wpAnyIn_take (i := 13) (v := .bool true) rfl rfl (by kernel_rfl) (by kernel_rfl) (by kernel_rfl) (fun _ _ _ h => h) ⟨Or.inl ⟨by rfl, fun w => by go_simp⟩, fun w => rfl⟩ ?_
          try simp only [Act.put, List.getElem_toArray, List.getElem_cons_succ, List.getElem_cons_zero, List.setIfInBounds_toArray, List.set_cons_zero, List.set_cons_succ]
          refine wpAnyIn_done (by kernel_rfl) ?_ _
          gi_wp2_with fail
          simp only [Exit.noGoto]
          exact bodyPost_ret (results_none rfl _ _ _) rfl ⟨⟨_, rfl⟩, .inr HZ2.out⟩
    · have iil : ¬ (i : Int) < (l'.length : Int) := by omega
      have hkE : k = (keysL (fun x => pickL x at') l).length := by rw [← HT.out]; exact HM.out.2.2 (by omega)
      have HJE : Hid (∃ g, J (keysL (fun x => pickL x at') l).length g wo) := Lib.hid ⟨g, by rw [← hkE]; exact HJ.out⟩
      clear hkE
      gi_wp2_with fail
      try simp only [Exit.noGoto]
      go_end0
      exact ⟨⟨_, rfl⟩, .inl HJE.out⟩
end Go.Proofs.YtmconajkgjfplaaGreat
end
