/- Texts that the proofs of FoldTells stand on, part 4. -/
import Derived.Lib.AppendZerosOnto
import Derived.RangeFuncNested
import Derived.RangeFuncBound
import Derived.RangeFuncCalls
import Derived.RangeFuncLeaves
import Derived.Shelf.Abstract
import Derived.Shelf.RegionOpen
import Derived.OwnWalkIn
import Derived.TacticsInMore
import Derived.LoopNIn
import Derived.LoopIn
import Derived.OrdersIn
import Derived.OrdersHeld
import Derived.Deep.RegionHeld3
import Derived.Scope
import Derived.Test.YtmconajkgjfplaaGreatKFoldTells3
/- What is told of a group's values: fold.tell. (Printed by fldw.py.) -/
section
set_option linter.unusedVariables false
set_option linter.unusedSimpArgs false
namespace Go.Proofs.YtmconajkgjfplaaGreat
open Go.RowKit
set_option linter.unusedVariables false
set_option linter.unusedSimpArgs false
def V.num (n : Int) : V := ⟨1, n, []⟩
def tellErr (op : Int) (l : List V) : Int := if op = 3 then (if (total l).isSome then 0 else 160) else 0
def tellV (op : Int) (many : Nat) (l : List V) : V :=
  if op = 1 then .num many else if op = 2 then .num (sortV l).length else if op = 3 then (if (total l).isSome then .num ((total l).getD 0) else ⟨0, 0, []⟩) else if op = 4 then leastV l else greatV l
set_option maxRecDepth 100000 in
set_option maxHeartbeats 4000000 in
theorem tell_count (lo hi : Nat) (op : Int) (many : Nat) (l : List V) (v : Value) (w : World) (hv : Row1 lo hi w v l) (hhi : hi ≤ w.heap.size) (hmany : many ≤ 1000000000000) (hlen : l.length ≤ 1000) (hop : op = 1) (R : Ending → World → Prop)
    (hR : ∀ w', Below w.heap.size w w' → R (.returned (.tuple #[(tellV op many l).agg, .int .i64 (tellErr op l)])) w') : Calls Tryz.prog 36 #[.int .i64 op, .int .i64 (many : Int), v] w R := by
  have HR := Lib.hid hR
  have Hv := Lib.hid hv
  obtain ⟨av, cv, rfl, -, -, -, -⟩ := hv.form
  clear hR hv
  go_enter Tryz.func36, Tryz.ntmps36
  go_upto_region 1 with fail
  have hB := alloc_below w (.cells #[.int .i64 0, .int .i64 0, .string ⟨#[]⟩] 44)
  have hb := Blk.new w [.int .i64 0, .int .i64 0, .string ⟨#[]⟩] 44 rfl
  generalize w.alloc (.cells #[.int .i64 0, .int .i64 0, .string ⟨#[]⟩] 44) = wa at *
  have f0 := hb.free 0
  have f1 := hb.free 1
  have f2 := hb.free 2
  obtain ⟨d0, d1, d2⟩ := hb.cells.c3
  simp only [Nat.zero_add] at d1 d2
  subst hop
  have hr := HR.out
  have e1 : tellV 1 many l = .num many := rfl
  have e2 : tellErr 1 l = 0 := rfl
  rw [e1, e2] at hr
  clear e1 e2
  go_wp2_with fail
  exact ret_cell_tmp rfl rfl ((((hb.set 0 (.int .i64 (V.num many).kind)).set 1 (.int .i64 (V.num many).n)).set 2 (.string ⟨(V.num many).s.toArray⟩)).cells.runVar (fun _ => by kernel_rfl) (fun _ => by kernel_rfl)) rfl rfl
    (hr _ (((hB.setCell (p := ⟨w.heap.size, 0, none⟩) (Nat.le_refl _) _).setCell (p := ⟨w.heap.size, 1, none⟩) (Nat.le_refl _) _).setCell (p := ⟨w.heap.size, 2, none⟩) (Nat.le_refl _) _))
set_option maxRecDepth 100000 in
set_option maxHeartbeats 4000000 in
theorem tell_distinct (lo hi : Nat) (op : Int) (many : Nat) (l : List V) (v : Value) (w : World) (hv : Row1 lo hi w v l) (hhi : hi ≤ w.heap.size) (hmany : many ≤ 1000000000000) (hlen : l.length ≤ 1000) (hop : op = 2) (R : Ending → World → Prop)
    (hR : ∀ w', Below w.heap.size w w' → R (.returned (.tuple #[(tellV op many l).agg, .int .i64 (tellErr op l)])) w') : Calls Tryz.prog 36 #[.int .i64 op, .int .i64 (many : Int), v] w R := by
  have HR := Lib.hid hR
  have Hv := Lib.hid hv
  obtain ⟨av, cv, rfl, -, -, -, -⟩ := hv.form
  clear hR hv
  go_enter Tryz.func36, Tryz.ntmps36
  go_upto_region 1 with fail
  have hB := alloc_below w (.cells #[.int .i64 0, .int .i64 0, .string ⟨#[]⟩] 44)
  have hb := Blk.new w [.int .i64 0, .int .i64 0, .string ⟨#[]⟩] 44 rfl
  generalize w.alloc (.cells #[.int .i64 0, .int .i64 0, .string ⟨#[]⟩] 44) = wa at *
  subst hop
  have HB := Lib.hid hB
  have Hb := Lib.hid hb
  clear hB hb
  go_wp2_with fail
  refine Sorted_any lo hi l _ wa (Sl.below Hv.out Row1.loc HB.out hhi) (by have := HB.out.size; omega) (by omega) _ (fun w2 v2 hB2 ho2 => ?_)
  obtain ⟨p2, c2, rfl⟩ := Own.slice ho2
  have hB := HB.out.trans (hB2.mono HB.out.size)
  have hb := Hb.out.below hB2 Hb.out.lt
  clear ho2 hB2
  have f0 := hb.free 0
  have f1 := hb.free 1
  have f2 := hb.free 2
  obtain ⟨d0, d1, d2⟩ := hb.cells.c3
  simp only [Nat.zero_add] at d1 d2
  have hr := HR.out
  have e1 : tellV 2 many l = .num (sortV l).length := rfl
  have e2 : tellErr 2 l = 0 := rfl
  rw [e1, e2] at hr
  clear e1 e2
  generalize hn : (sortV l).length = n at *
  clear hn
  go_wp2_with fail
  exact ret_cell_tmp rfl rfl ((((hb.set 0 (.int .i64 (V.num n).kind)).set 1 (.int .i64 (V.num n).n)).set 2 (.string ⟨(V.num n).s.toArray⟩)).cells.runVar (fun _ => by kernel_rfl) (fun _ => by kernel_rfl)) rfl rfl
    (hr _ (((hB.setCell (p := ⟨w.heap.size, 0, none⟩) (Nat.le_refl _) _).setCell (p := ⟨w.heap.size, 1, none⟩) (Nat.le_refl _) _).setCell (p := ⟨w.heap.size, 2, none⟩) (Nat.le_refl _) _))
set_option maxRecDepth 100000 in
set_option maxHeartbeats 4000000 in
theorem tell_sum (lo hi : Nat) (op : Int) (many : Nat) (l : List V) (v : Value) (w : World) (hv : Row1 lo hi w v l) (hhi : hi ≤ w.heap.size) (hmany : many ≤ 1000000000000) (hlen : l.length ≤ 1000) (hop : op = 3) (hok : ∀ x ∈ l, x.ok) (R : Ending → World → Prop)
    (hR : ∀ w', Below w.heap.size w w' → R (.returned (.tuple #[(tellV op many l).agg, .int .i64 (tellErr op l)])) w') : Calls Tryz.prog 36 #[.int .i64 op, .int .i64 (many : Int), v] w R := by
  have HR := Lib.hid hR
  have Hv := Lib.hid hv
  obtain ⟨av, cv, rfl, -, -, -, -⟩ := hv.form
  clear hR hv
  go_enter Tryz.func36, Tryz.ntmps36
  go_upto_region 1 with fail
  have hB := alloc_below w (.cells #[.int .i64 0, .int .i64 0, .string ⟨#[]⟩] 44)
  have hb := Blk.new w [.int .i64 0, .int .i64 0, .string ⟨#[]⟩] 44 rfl
  generalize w.alloc (.cells #[.int .i64 0, .int .i64 0, .string ⟨#[]⟩] 44) = wa at *
  subst hop
  have HB := Lib.hid hB
  have Hb := Lib.hid hb
  clear hB hb
  go_wp2_with fail
  refine Total_any lo hi _ l wa (Sl.below Hv.out Row1.loc HB.out hhi) (by have := HB.out.size; omega) hok (by omega) _ (fun w2 hB2 => ?_)
  have hB := HB.out.trans (hB2.mono HB.out.size)
  have hb := Hb.out.below hB2 Hb.out.lt
  clear hB2
  have f0 := hb.free 0
  have f1 := hb.free 1
  have f2 := hb.free 2
  obtain ⟨d0, d1, d2⟩ := hb.cells.c3
  simp only [Nat.zero_add] at d1 d2
  have hr := HR.out
  have e1 : tellV 3 many l = if (total l).isSome then .num ((total l).getD 0) else ⟨0, 0, []⟩ := rfl
  have e2 : tellErr 3 l = if (total l).isSome then 0 else 160 := rfl
  rw [e1, e2] at hr
  clear e1 e2
  generalize total l = t at *
  cases t with
  | none =>
    simp only [totalV, Option.isSome_none, Option.getD_none, Bool.false_eq_true, if_false] at hr ⊢
    go_wp2_with fail
    exact ret_cell_tmp rfl rfl ((((hb.set 0 (.int .i64 (⟨0, 0, []⟩ : V).kind)).set 1 (.int .i64 (⟨0, 0, []⟩ : V).n)).set 2 (.string ⟨(⟨0, 0, []⟩ : V).s.toArray⟩)).cells.runVar (fun _ => by kernel_rfl) (fun _ => by kernel_rfl)) rfl rfl
      (hr _ (((hB.setCell (p := ⟨w.heap.size, 0, none⟩) (Nat.le_refl _) _).setCell (p := ⟨w.heap.size, 1, none⟩) (Nat.le_refl _) _).setCell (p := ⟨w.heap.size, 2, none⟩) (Nat.le_refl _) _))
  | some n =>
    simp only [totalV, Option.isSome_some, Option.getD_some, if_true] at hr ⊢
    go_wp2_with fail
    exact ret_cell_tmp rfl rfl ((((hb.set 0 (.int .i64 (V.num n).kind)).set 1 (.int .i64 (V.num n).n)).set 2 (.string ⟨(V.num n).s.toArray⟩)).cells.runVar (fun _ => by kernel_rfl) (fun _ => by kernel_rfl)) rfl rfl
      (hr _ (((hB.setCell (p := ⟨w.heap.size, 0, none⟩) (Nat.le_refl _) _).setCell (p := ⟨w.heap.size, 1, none⟩) (Nat.le_refl _) _).setCell (p := ⟨w.heap.size, 2, none⟩) (Nat.le_refl _) _))
set_option maxRecDepth 100000 in
set_option maxHeartbeats 4000000 in
theorem tell_least (lo hi : Nat) (op : Int) (many : Nat) (l : List V) (v : Value) (w : World) (hv : Row1 lo hi w v l) (hhi : hi ≤ w.heap.size) (hmany : many ≤ 1000000000000) (hlen : l.length ≤ 1000) (hop : op = 4) (hne : 0 < l.length) (R : Ending → World → Prop)
    (hR : ∀ w', Below w.heap.size w w' → R (.returned (.tuple #[(tellV op many l).agg, .int .i64 (tellErr op l)])) w') : Calls Tryz.prog 36 #[.int .i64 op, .int .i64 (many : Int), v] w R := by
  have HR := Lib.hid hR
  have Hv := Lib.hid hv
  obtain ⟨av, cv, rfl, -, -, -, -⟩ := hv.form
  clear hR hv
  go_enter Tryz.func36, Tryz.ntmps36
  go_upto_region 1 with fail
  have hB := alloc_below w (.cells #[.int .i64 0, .int .i64 0, .string ⟨#[]⟩] 44)
  have hb := Blk.new w [.int .i64 0, .int .i64 0, .string ⟨#[]⟩] 44 rfl
  generalize w.alloc (.cells #[.int .i64 0, .int .i64 0, .string ⟨#[]⟩] 44) = wa at *
  subst hop
  have HB := Lib.hid hB
  have Hb := Lib.hid hb
  clear hB hb
  go_wp2_with fail
  refine MinFunc_any lo hi l _ wa (Sl.below Hv.out Row1.loc HB.out hhi) (by have := HB.out.size; omega) hne _ (fun w2 hB2 => ?_)
  have hB := HB.out.trans (hB2.mono HB.out.size)
  have hb := Hb.out.below hB2 Hb.out.lt
  clear hB2
  have f0 := hb.free 0
  have f1 := hb.free 1
  have f2 := hb.free 2
  obtain ⟨d0, d1, d2⟩ := hb.cells.c3
  simp only [Nat.zero_add] at d1 d2
  have hr := HR.out
  have e1 : tellV 4 many l = leastV l := rfl
  have e2 : tellErr 4 l = 0 := rfl
  rw [e1, e2] at hr
  clear e1 e2
  generalize leastV l = m at *
  go_wp2_with fail
  exact ret_cell_tmp rfl rfl ((((hb.set 0 (.int .i64 m.kind)).set 1 (.int .i64 m.n)).set 2 (.string ⟨m.s.toArray⟩)).cells.runVar (fun _ => by kernel_rfl) (fun _ => by kernel_rfl)) rfl rfl
    (hr _ (((hB.setCell (p := ⟨w.heap.size, 0, none⟩) (Nat.le_refl _) _).setCell (p := ⟨w.heap.size, 1, none⟩) (Nat.le_refl _) _).setCell (p := ⟨w.heap.size, 2, none⟩) (Nat.le_refl _) _))
set_option maxRecDepth 100000 in
set_option maxHeartbeats 4000000 in
theorem tell_great (lo hi : Nat) (op : Int) (many : Nat) (l : List V) (v : Value) (w : World) (hv : Row1 lo hi w v l) (hhi : hi ≤ w.heap.size) (hmany : many ≤ 1000000000000) (hlen : l.length ≤ 1000) (hop : op = 5) (hne : 0 < l.length) (R : Ending → World → Prop)
    (hR : ∀ w', Below w.heap.size w w' → R (.returned (.tuple #[(tellV op many l).agg, .int .i64 (tellErr op l)])) w') : Calls Tryz.prog 36 #[.int .i64 op, .int .i64 (many : Int), v] w R := by
  have HR := Lib.hid hR
  have Hv := Lib.hid hv
  obtain ⟨av, cv, rfl, -, -, -, -⟩ := hv.form
  clear hR hv
  go_enter Tryz.func36, Tryz.ntmps36
  go_upto_region 1 with fail
  have hB := alloc_below w (.cells #[.int .i64 0, .int .i64 0, .string ⟨#[]⟩] 44)
  have hb := Blk.new w [.int .i64 0, .int .i64 0, .string ⟨#[]⟩] 44 rfl
  generalize w.alloc (.cells #[.int .i64 0, .int .i64 0, .string ⟨#[]⟩] 44) = wa at *
  subst hop
  have HB := Lib.hid hB
  have Hb := Lib.hid hb
  clear hB hb
  go_wp2_with fail
  refine MaxFunc_any lo hi l _ wa (Sl.below Hv.out Row1.loc HB.out hhi) (by have := HB.out.size; omega) hne _ (fun w2 hB2 => ?_)
  have hB := HB.out.trans (hB2.mono HB.out.size)
  have hb := Hb.out.below hB2 Hb.out.lt
  clear hB2
  have f0 := hb.free 0
  have f1 := hb.free 1
  have f2 := hb.free 2
  obtain ⟨d0, d1, d2⟩ := hb.cells.c3
  simp only [Nat.zero_add] at d1 d2
  have hr := HR.out
  have e1 : tellV 5 many l = greatV l := rfl
  have e2 : tellErr 5 l = 0 := rfl
  rw [e1, e2] at hr
  clear e1 e2
  generalize greatV l = m at *
  go_wp2_with fail
  exact ret_cell_tmp rfl rfl ((((hb.set 0 (.int .i64 m.kind)).set 1 (.int .i64 m.n)).set 2 (.string ⟨m.s.toArray⟩)).cells.runVar (fun _ => by kernel_rfl) (fun _ => by kernel_rfl)) rfl rfl
    (hr _ (((hB.setCell (p := ⟨w.heap.size, 0, none⟩) (Nat.le_refl _) _).setCell (p := ⟨w.heap.size, 1, none⟩) (Nat.le_refl _) _).setCell (p := ⟨w.heap.size, 2, none⟩) (Nat.le_refl _) _))
theorem tell_any (lo hi : Nat) (op : Int) (many : Nat) (l : List V) (v : Value) (w : World) (hv : Row1 lo hi w v l) (hhi : hi ≤ w.heap.size) (hmany : many ≤ 1000000000000) (hlen : l.length ≤ 1000) (hop1 : 1 ≤ op) (hop5 : op ≤ 5) (hok : ∀ x ∈ l, x.ok) (hne : op = 1 ∨ 0 < l.length) (R : Ending → World → Prop)
    (hR : ∀ w', Below w.heap.size w w' → R (.returned (.tuple #[(tellV op many l).agg, .int .i64 (tellErr op l)])) w') : Calls Tryz.prog 36 #[.int .i64 op, .int .i64 (many : Int), v] w R := by
  rcases (show op = 1 ∨ op = 2 ∨ op = 3 ∨ op = 4 ∨ op = 5 by omega) with h | h | h | h | h
  · exact tell_count lo hi op many l v w hv hhi hmany hlen h R hR
  · exact tell_distinct lo hi op many l v w hv hhi hmany hlen h R hR
  · exact tell_sum lo hi op many l v w hv hhi hmany hlen h hok R hR
  · exact tell_least lo hi op many l v w hv hhi hmany hlen h (by omega) R hR
  · exact tell_great lo hi op many l v w hv hhi hmany hlen h (by omega) R hR
end Go.Proofs.YtmconajkgjfplaaGreat
end

/- slices.Grow of nothing; slices.Concat of two slices: of texts, of values, of rows' headers. (Printed by mea.py.) -/
section
set_option linter.unusedVariables false
set_option linter.unusedSimpArgs false
namespace Go.Proofs.YtmconajkgjfplaaGreat
open Go.RowKit
set_option linter.unusedVariables false
set_option linter.unusedSimpArgs false
attribute [local go_sem ↓] Go.wp_at_zero Go.wp_at_succ

end Go.Proofs.YtmconajkgjfplaaGreat
end

/- Columns that two relations have, and those that one alone has; rows sorted by columns. (Printed by meb.py.) -/
section
set_option linter.unusedVariables false
set_option linter.unusedSimpArgs false
namespace Go.Proofs.YtmconajkgjfplaaGreat
open Go.RowKit
set_option linter.unusedVariables false
set_option linter.unusedSimpArgs false
attribute [local go_sem ↓] Go.wp_at_zero Go.wp_at_succ

def commonC (a b : List S) : List S := b.filter fun c => decide (0 ≤ placeI a c)
def restC (a b : List S) : List S := b.filter fun c => !decide (0 ≤ placeI a c)
theorem rest_succ (a b : List S) (k : Nat) (h : k < b.length) : restC a (b.take (k + 1)) = restC a (b.take k) ++ (if 0 ≤ placeI a b[k] then [] else [b[k]]) := by
  unfold restC
  rw [List.take_succ_eq_append_getElem h, List.filter_append, List.filter_cons, List.filter_nil]
  by_cases hp : 0 ≤ placeI a b[k] <;> simp [hp]
theorem appT1 {w : World} {lo : Nat} {v : Value} {xs : List S} (h : OwnT lo w v xs) (x : S) {n : Nat} (hn : n = w.heap.size) (hb : xs.length ≤ 4000000000000) (hlo : lo ≤ w.heap.size) :
    ∃ v' w', (Builtin.append_ #[22, 22] 22 #[v, .slice (some ⟨n, 0, none⟩) 1 1]).run Tryz.prog (w.alloc (.cells #[.string ⟨x.toArray⟩] 9)) = .ok v' w' ∧ OwnT lo w' v' (xs ++ [x]) ∧ Appended w v w' v' := by
  subst hn
  have hB : Below w.heap.size w (w.alloc (.cells (strE x).toArray 9)) := (Below.refl _ _).alloc (Nat.le_refl _) _
  obtain ⟨i0, hi, hz0, hz1, hz2⟩ := info_parts infoT
  have hc := CellsAt.newAt w (strE x) 9 rfl
  have hs : Src Tryz.prog 1 22 (.slice (some ⟨w.heap.size, 0, none⟩) 1 1) [x].length ([x].flatMap strE) (w.alloc (.cells (strE x).toArray 9)) :=
    Src.ofSlice _ Tryz.underlying22 _ _ _ _ (by simp [strE]) (fun j u hu => by rw [Addr.add_lit]; exact hc j u (by simpa using hu)) (fun u hu => by
      rw [List.flatMap_cons, List.flatMap_nil, List.append_nil] at hu
      exact oneS x u hu)
  obtain ⟨v', w', hr, ho, ha⟩ := (Own.kept h hB).app _ _ _ i0 _ 16 Tryz.underlying22 hi hz0 hz1 hz2 rfl hs (by simp only [List.length_cons, List.length_nil]; omega) (by omega) (Nat.le_trans hlo hB.size)
  exact ⟨v', w', hr, ho, (Appended.step v hB).trans ha⟩
end Go.Proofs.YtmconajkgjfplaaGreat
end

/- How two rows' keys stand, as the closure of fold.groups says it. (Printed by fldb.py.) -/
section
set_option linter.unusedVariables false
set_option linter.unusedSimpArgs false
namespace Go.Proofs.YtmconajkgjfplaaGreat
open Go.RowKit Go.Sort Go.Shelf
set_option linter.unusedVariables false
set_option linter.unusedSimpArgs false
set_option maxRecDepth 100000 in
set_option maxHeartbeats 2000000 in
theorem cmpKey_any (lo hi lo2 hi2 la ha bt : Nat) (x y : List V) (at' : List Int) (vx vy va : Value) (w : World) (hx : Row1 lo hi w vx x) (hhi : hi ≤ w.heap.size) (hy : Row1 lo2 hi2 w vy y) (hhi2 : hi2 ≤ w.heap.size) (hb : Blk w bt [va] 58) (hat : Ints la ha w va at') (hha : ha ≤ w.heap.size) (hokx : AtOk x.length at') (hoky : AtOk y.length at') (hlen : at'.length ≤ 1000000000000) (R : Ending → World → Prop)
    (hR : ∀ w', Gw w w' → R (.returned (.int .i64 (cmpR (pickL x at') (pickL y at')))) w') : Calls Tryz.prog 53 #[vx, vy, .pointer (some ⟨bt, 0, none⟩)] w R := by
  have HR := Lib.hid hR
  have Hx := Lib.hid hx
  have Hy := Lib.hid hy
  have Hat := Lib.hid hat
  have Hokx := Lib.hid hokx
  have Hoky := Lib.hid hoky
  have Hb := Lib.hid hb
  obtain ⟨ax, cx, rfl, -, -, -, -⟩ := hx.form
  obtain ⟨ay, cy, rfl, -, -, -, -⟩ := hy.form
  obtain ⟨aa, ca, rfl, -, -, -, -⟩ := hat.form
  have c0 := hb.cells.c1
  clear hR hx hy hat hokx hoky hb
  go_enter Tryz.func53, Tryz.ntmps53
  go_wp2_with fail
  refine wp_region_held_drew (S := fun w' => Gw w w') (by kernel_rfl) ((Gw.refl _).drew) (fun hHeld => ?_)
  refine wpAnyH_take (i := 0) (v := .slice ax x.length cx) rfl (by kernel_rfl) (by kernel_rfl) (by kernel_rfl) (fun _ _ _ h => h) (Or.inl ⟨by rfl, ?_⟩) hHeld ?_
  · intro w' hSw; go_simp
  try simp only [Act.put, List.getElem_toArray, List.getElem_cons_succ, List.getElem_cons_zero, List.setIfInBounds_toArray, List.set_cons_zero, List.set_cons_succ]
  refine wpAnyH_take (i := 1) (v := .slice aa at'.length ca) rfl (by kernel_rfl) (by kernel_rfl) (by kernel_rfl) (fun _ _ _ h => h) (Or.inl ⟨by rfl, ?_⟩) hHeld ?_
  · intro w' hSw; have kx := ((Hb.out.below hSw.below (by have := Hb.out.lt; omega)).cells).c1; go_simp
  try simp only [Act.put, List.getElem_toArray, List.getElem_cons_succ, List.getElem_cons_zero, List.setIfInBounds_toArray, List.set_cons_zero, List.set_cons_succ]
  refine wpAnyH_take (i := 3) (v := .slice ay y.length cy) rfl (by kernel_rfl) (by kernel_rfl) (by kernel_rfl) (fun _ _ _ h => h) (Or.inl ⟨by rfl, ?_⟩) hHeld ?_
  · intro w' hSw; go_simp
  try simp only [Act.put, List.getElem_toArray, List.getElem_cons_succ, List.getElem_cons_zero, List.setIfInBounds_toArray, List.set_cons_zero, List.set_cons_succ]
  refine wpAnyH_take (i := 4) (v := .slice aa at'.length ca) rfl (by kernel_rfl) (by kernel_rfl) (by kernel_rfl) (fun _ _ _ h => h) (Or.inl ⟨by rfl, ?_⟩) hHeld ?_
  · intro w' hSw; have kx := ((Hb.out.below hSw.below (by have := Hb.out.lt; omega)).cells).c1; go_simp
  try simp only [Act.put, List.getElem_toArray, List.getElem_cons_succ, List.getElem_cons_zero, List.setIfInBounds_toArray, List.set_cons_zero, List.set_cons_succ]
  refine wpAnyH_ready (rs := [2]) (by kernel_rfl) (by simp) ?_
  refine allCall (f := 54) (args := #[.slice ax x.length cx, .slice aa at'.length ca]) rfl (by kernel_rfl) (by kernel_rfl) ?_ AllReadyH.nil
  refine key_any lo hi la ha x at' _ _ w.drew (Sl.below Hx.out Row1.loc ((Below.refl _ _).drew) hhi) hhi (Sl.below Hat.out Ints.loc ((Below.refl _ _).drew) hha) hha Hokx.out hlen _ (fun w1 v1 hg1 ho1 => ?_)
  obtain ⟨p1, c1, rfl⟩ := Own.slice ho1
  have hG1 : Gw w w1 := ((Gw.refl _).drew).trans hg1
  have HG1 := Lib.hid hG1
  have HO1 : Hid (OwnV w.heap.size w1 _ _) := Lib.hid ho1
  refine ⟨_, rfl, hG1, ?_⟩
  clear hHeld
  have hHeld := hG1
  clear ho1 hg1 hG1
  try simp only [Act.put, List.getElem_toArray, List.getElem_cons_succ, List.getElem_cons_zero, List.setIfInBounds_toArray, List.set_cons_zero, List.set_cons_succ]
  refine wpAnyH_ready (rs := [5]) (by kernel_rfl) (by simp) ?_
  refine allCall (f := 54) (args := #[.slice ay y.length cy, .slice aa at'.length ca]) rfl (by kernel_rfl) (by kernel_rfl) ?_ AllReadyH.nil
  refine key_any lo2 hi2 la ha y at' _ _ w1 (Sl.below Hy.out Row1.loc HG1.out.below hhi2) (by have := HG1.out.size; omega) (Sl.below Hat.out Ints.loc HG1.out.below hha) (by have := HG1.out.size; omega) Hoky.out hlen _ (fun w2 v2 hg2 ho2 => ?_)
  obtain ⟨p2, c2, rfl⟩ := Own.slice ho2
  have hG2 : Gw w w2 := HG1.out.trans hg2
  have HG2 := Lib.hid hG2
  have HG12 := Lib.hid hg2
  have HO2 : Hid (OwnV w1.heap.size w2 _ _) := Lib.hid ho2
  refine ⟨_, rfl, hG2, ?_⟩
  clear hHeld
  have hHeld := hG2
  clear ho2 hg2 hG2
  try simp only [Act.put, List.getElem_toArray, List.getElem_cons_succ, List.getElem_cons_zero, List.setIfInBounds_toArray, List.set_cons_zero, List.set_cons_succ]
  refine wpAnyH_ready (rs := [6]) (by kernel_rfl) (by simp) ?_
  refine allCall (f := 9) (args := #[.slice p1 (pickL x at').length c1, .slice p2 (pickL y at').length c2]) rfl (by kernel_rfl) (by kernel_rfl) ?_ AllReadyH.nil
  refine rowsCompare_any _ _ _ _ (pickL x at') (pickL y at') _ _ w2 (OwnV.sl (Own.kept HO1.out HG12.out.below)) (OwnV.sl HO2.out) (Nat.le_refl _) (Nat.le_refl _) _ (fun w3 hg3 => ?_)
  have hG3 : Gw w w3 := HG2.out.trans hg3
  have HG3 := Lib.hid hG3
  refine ⟨_, rfl, hG3, ?_⟩
  clear hHeld
  have hHeld := hG3
  clear hg3 hG3
  try simp only [Act.put, List.getElem_toArray, List.getElem_cons_succ, List.getElem_cons_zero, List.setIfInBounds_toArray, List.set_cons_zero, List.set_cons_succ]
  refine wpAnyH_take (i := 7) (v := .int .i64 (cmpR (pickL x at') (pickL y at'))) rfl (by kernel_rfl) (by kernel_rfl) (by kernel_rfl) (fun _ _ _ h => h) (Or.inl ⟨by rfl, ?_⟩) hHeld ?_
  · intro w' hSw; go_simp
  try simp only [Act.put, List.getElem_toArray, List.getElem_cons_succ, List.getElem_cons_zero, List.setIfInBounds_toArray, List.set_cons_zero, List.set_cons_succ]
  refine wpAnyH_done (by kernel_rfl) ?_ _
  clear hHeld
  have hr := HR.out w3 HG3.out
  go_wp2_with fail
  first | exact hr | exact fin hr rfl
end Go.Proofs.YtmconajkgjfplaaGreat
end

/- The program's Select: what it asks may keep a state of its own. (Printed by rowse.py.) -/
section
set_option linter.unusedVariables false
set_option linter.unusedSimpArgs false
namespace Go.Proofs.YtmconajkgjfplaaGreat
open Go.RowKit
set_option linter.unusedVariables false
set_option linter.unusedSimpArgs false

theorem OwnR.keptOnly {A : Nat → Prop} {lo : Nat} {w w' : World} {v : Value} {hs : List Value} {xs : List (List V)} (h : OwnR lo w v hs xs) (hO : Only A w w') (hA : ∀ b, A b → b < lo) : OwnR lo w' v hs xs :=
  ⟨Own.same h.own (fun g e => hO.block g (Own.lt h.own g e).2 (fun a => by have := hA g a; have := (Own.lt h.own g e).1; omega)), h.len,
    fun i hi h2 => Own.same (h.row i hi h2) (fun g e => hO.block g (Own.lt (h.row i hi h2) g e).2 (fun a => by have := hA g a; have := (Own.lt (h.row i hi h2) g e).1; omega)), h.apart⟩
theorem Only.into2 {A A' : Nat → Prop} {w W W1 : World} (h1 : Only A w W) (h2 : Only A' W W1) (hA : ∀ b, b < w.heap.size → A' b → A b) : Only A w W1 :=
  ⟨h2.os.trans h1.os, h2.tape.trans h1.tape, h2.output.trans h1.output, Nat.le_trans h1.size h2.size, fun k hk hn => (h2.block k (Nat.lt_of_lt_of_le hk h1.size) (fun e => hn (hA k hk e))).trans (h1.block k hk hn)⟩
end Go.Proofs.YtmconajkgjfplaaGreat
end

/- The program's Select. (Printed by rowsl.py.) -/
section
set_option linter.unusedVariables false
set_option linter.unusedSimpArgs false
namespace Go.Proofs.YtmconajkgjfplaaGreat
open Go.RowKit
set_option linter.unusedVariables false
set_option linter.unusedSimpArgs false

end Go.Proofs.YtmconajkgjfplaaGreat
end

/- What is too great for the law; the document's relation of the program's. -/
section
set_option linter.unusedVariables false
set_option linter.unusedSimpArgs false
namespace Go.Proofs.YtmconajkgjfplaaGreat
open Go.RowKit
set_option linter.unusedVariables false
set_option linter.unusedSimpArgs false

end Go.Proofs.YtmconajkgjfplaaGreat
end

/- A relation's own copy. -/
section
set_option linter.unusedVariables false
set_option linter.unusedSimpArgs false
namespace Go.Proofs.YtmconajkgjfplaaGreat
open Go.RowKit
set_option linter.unusedVariables false
set_option linter.unusedSimpArgs false

theorem Own.apartT {α β : Type} {enc : α → List Value} {enc' : β → List Value} {e e' : TypeId} {size size' lo lo' : Nat} {w : World} {v v' : Value} {xs : List α} {ys : List β} (h : Own enc e size lo w v xs) (h' : Own enc' e' size' lo' w v' ys) (ht : e ≠ e') {k : Nat} (hk : v.ownBlock = some k) : v'.ownBlock ≠ some k := by
  rcases h.2 with ⟨rfl, -⟩ | ⟨g, cap, cur, rfl, -, hg, -⟩
  · cases hk
  · have e1 : g = k := by simpa [Value.ownBlock] using hk
    subst e1
    exact Own.ne_blk h' (cs := cur.toList) (by unfold Blk; simpa using hg) ht
end Go.Proofs.YtmconajkgjfplaaGreat
end

/- The document's Same on relations that are alike. (Printed by rown.py.) -/
section
set_option linter.unusedVariables false
set_option linter.unusedSimpArgs false
namespace Go.Proofs.YtmconajkgjfplaaGreat
open Go.RowKit
set_option linter.unusedVariables false
set_option linter.unusedSimpArgs false

theorem cmpR_self (x : List V) : cmpR x x = 0 := by rw [cmpR_cmp.self]
set_option maxRecDepth 100000 in
set_option maxHeartbeats 4000000 in
theorem Same_any (lo hi lo2 hi2 lc hc lc2 hc2 : Nat) (cols : List S) (l : List (List V)) (ca cb la lb : Value) (w : World) (hca : Strs lc hc w ca cols) (hcb : Strs lc2 hc2 w cb cols) (hla : Rws lo hi w la l) (hlb : Rws lo2 hi2 w lb l) (h1 : hc ≤ w.heap.size) (h2 : hc2 ≤ w.heap.size) (h3 : hi ≤ w.heap.size) (h4 : hi2 ≤ w.heap.size) (hrs : ∀ x ∈ l, ∀ a ∈ x, a.s.length ≤ 9223372036854775807) (R : Ending → World → Prop)
    (hR : ∀ w', Below w.heap.size w w' → R (.returned (.bool true)) w') : Calls Tryz.prog 18 #[.agg #[ca, la], .agg #[cb, lb]] w R := by
  have HR := Lib.hid hR
  have HCa := Lib.hid hca
  have HCb := Lib.hid hcb
  have HLa := Lib.hid hla
  have HLb := Lib.hid hlb
  have Hrs := Lib.hid hrs
  obtain ⟨aca, cca, rfl, -, -, -, -⟩ := hca.form
  obtain ⟨acb, ccb, rfl, -, -, -, -⟩ := hcb.form
  obtain ⟨ala, cla, rfl, -, -, -, -⟩ := hla.form
  obtain ⟨alb, clb, rfl, -, -, -, -⟩ := hlb.form
  have hql := hca.len
  have hml := hla.len
  clear hR hca hcb hla hlb hrs
  obtain ⟨q, hq⟩ : ∃ q, q = cols.length := ⟨_, rfl⟩
  obtain ⟨m, hm⟩ : ∃ m, m = l.length := ⟨_, rfl⟩
  rw [← hq, ← hm]
  rw [← hq] at hql
  rw [← hm] at hml
  have Hq := Lib.hid hq
  have Hm := Lib.hid hm
  clear hq hm
  go_enter Tryz.func18, Tryz.ntmps18
  go_upto_region 1 with fail
  obtain ⟨w0, hw0⟩ : ∃ w0, w0 = (w.alloc (.cells #[.slice aca q cca, .slice ala m cla] 50)).alloc (.cells #[.slice acb q ccb, .slice alb m clb] 50) := ⟨_, rfl⟩
  have s1 : (w.alloc (.cells #[.slice aca q cca, .slice ala m cla] 50)).heap.size = w.heap.size + 1 := Array.size_push _
  have hB0 : Below w.heap.size w w0 := by
    rw [hw0]
    exact (alloc_below w _).alloc (by rw [s1]; omega) _
  have hz0 : w.heap.size + 1 < w0.heap.size := by
    rw [hw0]
    show _ < (Array.push _ _).size
    rw [Array.size_push, s1]; omega
  have hb1 : Blk w0 w.heap.size [.slice aca q cca, .slice ala m cla] 50 := by
    rw [hw0]
    exact (Blk.new w [.slice aca q cca, .slice ala m cla] _ rfl).alloc _
  have hb2 : Blk w0 (w.heap.size + 1) [.slice acb q ccb, .slice alb m clb] 50 := by
    rw [hw0]
    exact Blk.new _ [.slice acb q ccb, .slice alb m clb] _ s1.symm
  rw [← hw0]
  clear hw0 s1
  have HB0 := Lib.hid hB0
  have HA := Lib.hid hb1
  have HBb := Lib.hid hb2
  obtain ⟨d0, d1⟩ := hb1.cells.c2
  simp only [Nat.zero_add] at d1
  obtain ⟨e0, e1⟩ := hb2.cells.c2
  simp only [Nat.zero_add] at e1
  clear hB0 hb1 hb2
  go_wp2_with fail
  go_loopw [5] (fun t5 wr => ∃ k : Nat, k ≤ q ∧ t5 = .int .i64 k ∧ Below w0.heap.size w0 wr) (fun t5 _ => q - (intOf t5).toNat)
  case atStart => exact ⟨0, Nat.zero_le _, rfl, Below.refl _ _⟩
  case round =>
    obtain ⟨k, hk, rfl, hB⟩ := hrel
    obtain ⟨wo, ewo⟩ : ∃ x, x = wr := ⟨_, rfl⟩
    subst ewo
    have hz := hB.size
    have HB := Lib.hid hB
    have HBw := Lib.hid (HB0.out.trans (hB.mono (by omega)))
    have kk0 : (0 : Int) ≤ (k : Int) := by omega
    have Hb1 := Lib.hid (HA.out.below hB (by omega))
    have Hb2 := Lib.hid (HBb.out.below hB hz0)
    clear hB d0 d1 e0 e1
    obtain ⟨d0, d1⟩ := Hb1.out.cells.c2
    simp only [Nat.zero_add] at d1
    obtain ⟨e0, e1⟩ := Hb2.out.cells.c2
    simp only [Nat.zero_add] at e1
    by_cases hlt : k < q
    · have hltc : k < cols.length := by rw [← Hq.out]; exact hlt
      obtain ⟨ao', cap', e', -, -, -, hc⟩ := (Sl.below HCa.out Strs.loc HBw.out h1).form
      injection e' with e1' e2' e3'
      subst e1' e3'
      obtain ⟨bx, ox, rfl, hb1, hb2, hcc⟩ := hc k hltc
      obtain ⟨cs, _, hcs, rfl⟩ := hcc k hltc
      have gx := hcs.c1
      rw [Nat.mul_one] at gx
      clear hc hcc hcs
      obtain ⟨ao', cap', e', -, -, -, hc⟩ := (Sl.below HCb.out Strs.loc HBw.out h2).form
      injection e' with e1' e2' e3'
      subst e1' e3'
      obtain ⟨by_, oy, rfl, hb3, hb4, hcc⟩ := hc k hltc
      obtain ⟨cs, _, hcs, rfl⟩ := hcc k hltc
      have gy := hcs.c1
      rw [Nat.mul_one] at gy
      clear hc hcc hcs
      generalize cols[k] = c at *
      have kkl : (k : Int) < (q : Int) := by omega
      go_upto_region 6 with fail
      refine wp_region_held_drew (S := fun w' => w' = wo.drew) (by kernel_rfl) rfl (fun hHeld => ?_)
      refine wpAnyH_take (i := 0) (v := .pointer (some ⟨w.heap.size, 0, none⟩)) rfl (by kernel_rfl) (by kernel_rfl) (by kernel_rfl) (fun _ _ _ h => h) (Or.inl ⟨by rfl, ?_⟩) hHeld ?_
      · intro w' hSw; subst hSw; go_simp <;> omega
      try simp only [Act.put, List.getElem_toArray, List.getElem_cons_succ, List.getElem_cons_zero, List.setIfInBounds_toArray, List.set_cons_zero, List.set_cons_succ]
      refine wpAnyH_take (i := 1) (v := .slice (some ⟨bx, ox, none⟩) q cca) rfl (by kernel_rfl) (by kernel_rfl) (by kernel_rfl) (fun _ _ _ h => h) (Or.inl ⟨by rfl, ?_⟩) hHeld ?_
      · intro w' hSw; subst hSw; have kx := d0; go_simp
      try simp only [Act.put, List.getElem_toArray, List.getElem_cons_succ, List.getElem_cons_zero, List.setIfInBounds_toArray, List.set_cons_zero, List.set_cons_succ]
      refine wpAnyH_take (i := 2) (v := .int .i64 ((k : Int))) rfl (by kernel_rfl) (by kernel_rfl) (by kernel_rfl) (fun _ _ _ h => h) (Or.inl ⟨by rfl, ?_⟩) hHeld ?_
      · intro w' hSw; subst hSw; go_simp <;> omega
      try simp only [Act.put, List.getElem_toArray, List.getElem_cons_succ, List.getElem_cons_zero, List.setIfInBounds_toArray, List.set_cons_zero, List.set_cons_succ]
      refine wpAnyH_take (i := 3) (v := .pointer (some ⟨bx, ox + k, none⟩)) rfl (by kernel_rfl) (by kernel_rfl) (by kernel_rfl) (fun _ _ _ h => h) (Or.inl ⟨by rfl, ?_⟩) hHeld ?_
      · intro w' hSw; subst hSw; go_simp <;> omega
      try simp only [Act.put, List.getElem_toArray, List.getElem_cons_succ, List.getElem_cons_zero, List.setIfInBounds_toArray, List.set_cons_zero, List.set_cons_succ]
      refine wpAnyH_take (i := 4) (v := .string ⟨c.toArray⟩) rfl (by kernel_rfl) (by kernel_rfl) (by kernel_rfl) (fun _ _ _ h => h) (Or.inl ⟨by rfl, ?_⟩) hHeld ?_
      · intro w' hSw; subst hSw; have kx := gx; go_simp
      try simp only [Act.put, List.getElem_toArray, List.getElem_cons_succ, List.getElem_cons_zero, List.setIfInBounds_toArray, List.set_cons_zero, List.set_cons_succ]
      refine wpAnyH_take (i := 5) (v := .pointer (some ⟨w.heap.size + 1, 0, none⟩)) rfl (by kernel_rfl) (by kernel_rfl) (by kernel_rfl) (fun _ _ _ h => h) (Or.inl ⟨by rfl, ?_⟩) hHeld ?_
      · intro w' hSw; subst hSw; go_simp <;> omega
      try simp only [Act.put, List.getElem_toArray, List.getElem_cons_succ, List.getElem_cons_zero, List.setIfInBounds_toArray, List.set_cons_zero, List.set_cons_succ]
      refine wpAnyH_take (i := 6) (v := .slice (some ⟨by_, oy, none⟩) q ccb) rfl (by kernel_rfl) (by kernel_rfl) (by kernel_rfl) (fun _ _ _ h => h) (Or.inl ⟨by rfl, ?_⟩) hHeld ?_
      · intro w' hSw; subst hSw; have kx := e0; go_simp
      try simp only [Act.put, List.getElem_toArray, List.getElem_cons_succ, List.getElem_cons_zero, List.setIfInBounds_toArray, List.set_cons_zero, List.set_cons_succ]
      refine wpAnyH_take (i := 7) (v := .int .i64 ((k : Int))) rfl (by kernel_rfl) (by kernel_rfl) (by kernel_rfl) (fun _ _ _ h => h) (Or.inl ⟨by rfl, ?_⟩) hHeld ?_
      · intro w' hSw; subst hSw; go_simp <;> omega
      try simp only [Act.put, List.getElem_toArray, List.getElem_cons_succ, List.getElem_cons_zero, List.setIfInBounds_toArray, List.set_cons_zero, List.set_cons_succ]
      refine wpAnyH_take (i := 8) (v := .pointer (some ⟨by_, oy + k, none⟩)) rfl (by kernel_rfl) (by kernel_rfl) (by kernel_rfl) (fun _ _ _ h => h) (Or.inl ⟨by rfl, ?_⟩) hHeld ?_
      · intro w' hSw; subst hSw; go_simp <;> omega
      try simp only [Act.put, List.getElem_toArray, List.getElem_cons_succ, List.getElem_cons_zero, List.setIfInBounds_toArray, List.set_cons_zero, List.set_cons_succ]
      refine wpAnyH_take (i := 9) (v := .string ⟨c.toArray⟩) rfl (by kernel_rfl) (by kernel_rfl) (by kernel_rfl) (fun _ _ _ h => h) (Or.inl ⟨by rfl, ?_⟩) hHeld ?_
      · intro w' hSw; subst hSw; have kx := gy; go_simp
      try simp only [Act.put, List.getElem_toArray, List.getElem_cons_succ, List.getElem_cons_zero, List.setIfInBounds_toArray, List.set_cons_zero, List.set_cons_succ]
      refine wpAnyH_take (i := 10) (v := .bool false) rfl (by kernel_rfl) (by kernel_rfl) (by kernel_rfl) (fun _ _ _ h => h) (Or.inl ⟨by rfl, ?_⟩) hHeld ?_
      · intro w' hSw; subst hSw; go_simp <;> omega
      try simp only [Act.put, List.getElem_toArray, List.getElem_cons_succ, List.getElem_cons_zero, List.setIfInBounds_toArray, List.set_cons_zero, List.set_cons_succ]
      refine wpAnyH_done (by kernel_rfl) ?_ _
      clear hHeld
      go_wp2_with fail
      go_roundw
      case rel => exact ⟨k + 1, by omega, by go_num, HB.out.drew⟩
      case measure => simp [intOf]; omega
    · obtain rfl : k = q := by omega
      go_upto_region 8 with fail
      go_wp2_with fail
      go_loopw [6] (fun t6 wr => ∃ k : Nat, k ≤ m ∧ t6 = .int .i64 k ∧ Below w0.heap.size w0 wr) (fun t6 _ => m - (intOf t6).toNat)
      case atStart => exact ⟨0, Nat.zero_le _, rfl, HB.out⟩
      case round =>
        clear HB HBw Hb1 Hb2 d0 d1 e0 e1 hz kk0
        obtain ⟨k, hk, rfl, hB⟩ := hrel
        obtain ⟨wo, ewo⟩ : ∃ x, x = wr := ⟨_, rfl⟩
        subst ewo
        have hz := hB.size
        have HB := Lib.hid hB
        have HBw := Lib.hid (HB0.out.trans (hB.mono (by omega)))
        have kk0 : (0 : Int) ≤ (k : Int) := by omega
        have Hb1 := Lib.hid (HA.out.below hB (by omega))
        have Hb2 := Lib.hid (HBb.out.below hB hz0)
        clear hB
        have hl1 : w.heap.size < wo.heap.size := by omega
        have hl2 : w.heap.size + 1 < wo.heap.size := by omega
        obtain ⟨d0, d1⟩ := Hb1.out.cells.c2
        simp only [Nat.zero_add] at d1
        by_cases hlt : k < m
        · have hltl : k < l.length := by rw [← Hm.out]; exact hlt
          obtain ⟨ao', cap', e', -, -, -, hc⟩ := (Sl.below HLa.out rowE_loc HBw.out h3).form
          injection e' with e1' e2' e3'
          subst e1' e3'
          obtain ⟨bx, ox, rfl, hb1, hb2, hcc⟩ := hc k hltl
          obtain ⟨cs, _, hcs, sv, rfl, hsv⟩ := hcc k hltl
          have Hca := Lib.hid hcs
          have Hrx := Lib.hid hsv
          obtain ⟨ax, cx, rfl, -, -, -, -⟩ := hsv.form
          clear hc hcc hcs hsv
          obtain ⟨ao', cap', e', -, -, -, hc⟩ := (Sl.below HLb.out rowE_loc HBw.out h4).form
          injection e' with e1' e2' e3'
          subst e1' e3'
          obtain ⟨by_, oy, rfl, hb3, hb4, hcc⟩ := hc k hltl
          obtain ⟨cs, _, hcs, sv, rfl, hsv⟩ := hcc k hltl
          have Hcb := Lib.hid hcs
          have Hry := Lib.hid hsv
          obtain ⟨ay, cy, rfl, -, -, -, -⟩ := hsv.form
          clear hc hcc hcs hsv
          have hbxw : bx < wo.heap.size := by omega
          have hbyw : by_ < wo.heap.size := by omega
          have Hsx := Lib.hid (Hrs.out _ (List.getElem_mem hltl))
          generalize l[k] = x at *
          have kkl : (k : Int) < (m : Int) := by omega
          go_upto_region 11 with fail
          have hS0 : Below wo.heap.size wo wo.drew := (Below.refl _ _).drew
          refine wp_region_held_drew (S := fun w' => Below wo.heap.size wo w') (by kernel_rfl) hS0 (fun hHeld => ?_)
          refine wpAnyH_take (i := 0) (v := .pointer (some ⟨w.heap.size, 1, none⟩)) rfl (by kernel_rfl) (by kernel_rfl) (by kernel_rfl) (fun _ _ _ h => h) (Or.inl ⟨by rfl, ?_⟩) hHeld ?_
          · intro w' hSw; go_simp
          try simp only [Act.put, List.getElem_toArray, List.getElem_cons_succ, List.getElem_cons_zero, List.setIfInBounds_toArray, List.set_cons_zero, List.set_cons_succ]
          refine wpAnyH_take (i := 1) (v := .slice (some ⟨bx, ox, none⟩) m cla) rfl (by kernel_rfl) (by kernel_rfl) (by kernel_rfl) (fun _ _ _ h => h) (Or.inl ⟨by rfl, ?_⟩) hHeld ?_
          · intro w' hSw; obtain ⟨z0, z1⟩ := (Hb1.out.below hSw hl1).cells.c2; simp only [Nat.zero_add] at z1; go_simp
          try simp only [Act.put, List.getElem_toArray, List.getElem_cons_succ, List.getElem_cons_zero, List.setIfInBounds_toArray, List.set_cons_zero, List.set_cons_succ]
          refine wpAnyH_take (i := 2) (v := .int .i64 ((k : Int))) rfl (by kernel_rfl) (by kernel_rfl) (by kernel_rfl) (fun _ _ _ h => h) (Or.inl ⟨by rfl, ?_⟩) hHeld ?_
          · intro w' hSw; go_simp
          try simp only [Act.put, List.getElem_toArray, List.getElem_cons_succ, List.getElem_cons_zero, List.setIfInBounds_toArray, List.set_cons_zero, List.set_cons_succ]
          refine wpAnyH_take (i := 3) (v := .pointer (some ⟨bx, ox + k, none⟩)) rfl (by kernel_rfl) (by kernel_rfl) (by kernel_rfl) (fun _ _ _ h => h) (Or.inl ⟨by rfl, ?_⟩) hHeld ?_
          · intro w' hSw; go_simp
          try simp only [Act.put, List.getElem_toArray, List.getElem_cons_succ, List.getElem_cons_zero, List.setIfInBounds_toArray, List.set_cons_zero, List.set_cons_succ]
          refine wpAnyH_take (i := 4) (v := .slice ax x.length cx) rfl (by kernel_rfl) (by kernel_rfl) (by kernel_rfl) (fun _ _ _ h => h) (Or.inl ⟨by rfl, ?_⟩) hHeld ?_
          · intro w' hSw; have kx := (Hca.out.agree (.below hSw (Nat.le_refl _)) (Nat.zero_le _) hbxw).c1; rw [Nat.mul_one] at kx; go_simp
          try simp only [Act.put, List.getElem_toArray, List.getElem_cons_succ, List.getElem_cons_zero, List.setIfInBounds_toArray, List.set_cons_zero, List.set_cons_succ]
          refine wpAnyH_take (i := 5) (v := .pointer (some ⟨w.heap.size + 1, 1, none⟩)) rfl (by kernel_rfl) (by kernel_rfl) (by kernel_rfl) (fun _ _ _ h => h) (Or.inl ⟨by rfl, ?_⟩) hHeld ?_
          · intro w' hSw; go_simp
          try simp only [Act.put, List.getElem_toArray, List.getElem_cons_succ, List.getElem_cons_zero, List.setIfInBounds_toArray, List.set_cons_zero, List.set_cons_succ]
          refine wpAnyH_take (i := 6) (v := .slice (some ⟨by_, oy, none⟩) m clb) rfl (by kernel_rfl) (by kernel_rfl) (by kernel_rfl) (fun _ _ _ h => h) (Or.inl ⟨by rfl, ?_⟩) hHeld ?_
          · intro w' hSw; obtain ⟨z0, z1⟩ := (Hb2.out.below hSw hl2).cells.c2; simp only [Nat.zero_add] at z1; go_simp
          try simp only [Act.put, List.getElem_toArray, List.getElem_cons_succ, List.getElem_cons_zero, List.setIfInBounds_toArray, List.set_cons_zero, List.set_cons_succ]
          refine wpAnyH_take (i := 7) (v := .int .i64 ((k : Int))) rfl (by kernel_rfl) (by kernel_rfl) (by kernel_rfl) (fun _ _ _ h => h) (Or.inl ⟨by rfl, ?_⟩) hHeld ?_
          · intro w' hSw; go_simp
          try simp only [Act.put, List.getElem_toArray, List.getElem_cons_succ, List.getElem_cons_zero, List.setIfInBounds_toArray, List.set_cons_zero, List.set_cons_succ]
          refine wpAnyH_take (i := 8) (v := .pointer (some ⟨by_, oy + k, none⟩)) rfl (by kernel_rfl) (by kernel_rfl) (by kernel_rfl) (fun _ _ _ h => h) (Or.inl ⟨by rfl, ?_⟩) hHeld ?_
          · intro w' hSw; go_simp
          try simp only [Act.put, List.getElem_toArray, List.getElem_cons_succ, List.getElem_cons_zero, List.setIfInBounds_toArray, List.set_cons_zero, List.set_cons_succ]
          refine wpAnyH_take (i := 9) (v := .slice ay x.length cy) rfl (by kernel_rfl) (by kernel_rfl) (by kernel_rfl) (fun _ _ _ h => h) (Or.inl ⟨by rfl, ?_⟩) hHeld ?_
          · intro w' hSw; have kx := (Hcb.out.agree (.below hSw (Nat.le_refl _)) (Nat.zero_le _) hbyw).c1; rw [Nat.mul_one] at kx; go_simp
          try simp only [Act.put, List.getElem_toArray, List.getElem_cons_succ, List.getElem_cons_zero, List.setIfInBounds_toArray, List.set_cons_zero, List.set_cons_succ]
          refine wpAnyH_ready (rs := [10]) (by kernel_rfl) (by simp) ?_
          refine allCall (f := 47) (args := #[.slice ax x.length cx, .slice ay x.length cy]) rfl (by kernel_rfl) (by kernel_rfl) ?_ AllReadyH.nil
          refine refRowsCompare_any lo hi lo2 hi2 x x _ _ wo.drew (Sl.below Hrx.out Row1.loc hS0 (by omega)) (Sl.below Hry.out Row1.loc hS0 (by omega)) (by show hi ≤ wo.heap.size; omega) (by show hi2 ≤ wo.heap.size; omega) Hsx.out Hsx.out _ (fun w5 hB5 => ?_)
          rw [cmpR_self]
          refine ⟨_, rfl, hS0.trans (hB5.mono (Nat.le_refl _)), ?_⟩
          have HB5 := Lib.hid (hS0.trans (hB5.mono (Nat.le_refl _)))
          clear hB5 hHeld
          have hHeld := HB5.out
          try simp only [Act.put, List.getElem_toArray, List.getElem_cons_succ, List.getElem_cons_zero, List.setIfInBounds_toArray, List.set_cons_zero, List.set_cons_succ]
          refine wpAnyH_take (i := 11) (v := .int .i64 0) rfl (by kernel_rfl) (by kernel_rfl) (by kernel_rfl) (fun _ _ _ h => h) (Or.inl ⟨by rfl, ?_⟩) hHeld ?_
          · intro w' hSw; go_simp
          try simp only [Act.put, List.getElem_toArray, List.getElem_cons_succ, List.getElem_cons_zero, List.setIfInBounds_toArray, List.set_cons_zero, List.set_cons_succ]
          refine wpAnyH_done (by kernel_rfl) ?_ _
          clear hHeld
          go_wp2_with fail
          go_roundw
          case rel => exact ⟨k + 1, by omega, by go_num, HB.out.trans (HB5.out.mono hz)⟩
          case measure => simp [intOf]; omega
        · obtain rfl : k = m := by omega
          have llt : ¬ ((k : Nat) : Int) < (k : Int) := by omega
          have hr := HR.out _ HBw.out
          go_wp2_with fail
          first | exact hr | exact fin hr rfl
end Go.Proofs.YtmconajkgjfplaaGreat
end

/- The law's same on relations that are alike. (Printed by rowo.py.) -/
section
set_option linter.unusedVariables false
set_option linter.unusedSimpArgs false
namespace Go.Proofs.YtmconajkgjfplaaGreat
open Go.RowKit
set_option linter.unusedVariables false
set_option linter.unusedSimpArgs false

end Go.Proofs.YtmconajkgjfplaaGreat
end

/- Slices whose memory may be written, whatever it holds. -/
section
set_option linter.unusedVariables false
set_option linter.unusedSimpArgs false
namespace Go.Proofs.YtmconajkgjfplaaGreat
open Go.RowKit
set_option linter.unusedVariables false
set_option linter.unusedSimpArgs false

/-- v has n elements in a block of its own among lo .. hi that may be written; what it holds is not said. -/
def Shp (e : TypeId) (size lo hi : Nat) (w : World) (v : Value) (n : Nat) : Prop :=
  (n = 0 ∧ v = .slice none 0 0) ∨ ∃ g cap cur, v = .slice (some ⟨g, 0, none⟩) n cap ∧ lo ≤ g ∧ g < hi ∧ n ≤ cap ∧ cap ≤ 9223372036854775807 ∧ w.heap[g]? = some (.cells cur e) ∧ n * size ≤ cur.size
theorem heap_setCell_shape {w : World} {g : Nat} {cur : Array Value} {e : TypeId} (h : w.heap[g]? = some (.cells cur e)) (b i : Nat) (u : Value) : ∃ cur', (w.setCell ⟨b, i, none⟩ u).heap[g]? = some (.cells cur' e) ∧ cur'.size = cur.size := by
  by_cases hg : g = b
  · subst hg
    have hb : Blk w g cur.toList e := by unfold Blk; simpa using h
    have hs := hb.set i u
    unfold Blk at hs
    exact ⟨_, hs, by simp⟩
  · exact ⟨cur, (Below.heap_setCell _ _ _ _ hg).trans h, rfl⟩
theorem Shp.setCell {e : TypeId} {size lo hi : Nat} {w : World} {v : Value} {n : Nat} (h : Shp e size lo hi w v n) (b i : Nat) (u : Value) : Shp e size lo hi (w.setCell ⟨b, i, none⟩ u) v n := by
  rcases h with h | ⟨g, cap, cur, rfl, h1, h2, h3, h4, h5, h6⟩
  · exact .inl h
  · obtain ⟨cur', h5', h6'⟩ := heap_setCell_shape h5 b i u
    exact .inr ⟨g, cap, cur', rfl, h1, h2, h3, h4, h5', by omega⟩
theorem Shp.below {e : TypeId} {size lo hi B : Nat} {w w' : World} {v : Value} {n : Nat} (h : Shp e size lo hi w v n) (hB : Below B w w') (hb : hi ≤ B) : Shp e size lo hi w' v n := by
  rcases h with h | ⟨g, cap, cur, rfl, h1, h2, h3, h4, h5, h6⟩
  · exact .inl h
  · exact .inr ⟨g, cap, cur, rfl, h1, h2, h3, h4, (hB.block g (by omega)).trans h5, h6⟩
/-- A cell of it is there, and may be written. -/
theorem Shp.cell {e : TypeId} {size lo hi : Nat} {w : World} {v : Value} {n : Nat} (h : Shp e size lo hi w v n) {j : Nat} (hj : j < n) : ∃ g cap, v = .slice (some ⟨g, 0, none⟩) n cap ∧ lo ≤ g ∧ g < hi ∧ n ≤ cap ∧ cap ≤ 9223372036854775807 ∧ (∀ i, i < size → ∃ u, w.cell? ⟨g, j * size + i, none⟩ = some u) ∧ ∀ i, w.frozen? ⟨g, i, none⟩ = false := by
  rcases h with ⟨h, -⟩ | ⟨g, cap, cur, rfl, h1, h2, h3, h4, h5, h6⟩
  · omega
  · have hb : Blk w g cur.toList e := by unfold Blk; simpa using h5
    refine ⟨g, cap, rfl, h1, h2, h3, h4, fun i hi => ?_, fun i => hb.free i⟩
    have hlt : j * size + i < cur.toList.length := by
      have := Nat.mul_le_mul_right size (Nat.succ_le_of_lt hj)
      rw [Nat.succ_mul] at this
      rw [Array.length_toList]
      omega
    refine ⟨cur.toList[j * size + i], ?_⟩
    have := hb.cells (j * size + i) cur.toList[j * size + i] (List.getElem?_eq_getElem hlt)
    simpa using this
theorem Shp.ofOwn {α : Type} {enc : α → List Value} {e : TypeId} {size lo : Nat} {w : World} {v : Value} {xs : List α} (h : Own enc e size lo w v xs) : Shp e size lo w.heap.size w v xs.length := by
  have hl := Own.lt h
  rcases h.2 with ⟨ev, hn⟩ | ⟨g, cap, cur, ev, hb, hg, hnc, hcm, hcs, htake⟩
  · exact .inl ⟨hn, ev⟩
  · subst ev
    refine .inr ⟨g, cap, cur, rfl, hb, (hl g rfl).2, hnc, hcm, hg, ?_⟩
    have := Nat.mul_le_mul_right size hnc
    omega
end Go.Proofs.YtmconajkgjfplaaGreat
end

/- The document's: may a relation be? (Printed by rowv.py.) -/
section
set_option linter.unusedVariables false
set_option linter.unusedSimpArgs false
namespace Go.Proofs.YtmconajkgjfplaaGreat
open Go.RowKit
set_option linter.unusedVariables false
set_option linter.unusedSimpArgs false

set_option maxRecDepth 100000 in
set_option maxHeartbeats 4000000 in
theorem refMay_any (lo hi lc hc : Nat) (cols : List S) (ac : Option Addr) (cc : Nat) (l : List (List V)) (lv : Value) (w : World) (hcols : Strs lc hc w (.slice ac cols.length cc) cols) (hhc : hc ≤ w.heap.size) (hv : Rws lo hi w lv l) (hhi : hi ≤ w.heap.size) (hrs : ∀ x ∈ l, ∀ a ∈ x, a.s.length ≤ 9223372036854775807) (R : Ending → World → Prop)
    (hR : ∀ w', Below w.heap.size w w' → R (.returned (.bool (mayRel cols l))) w') : Calls Tryz.prog 71 #[.agg #[.slice ac cols.length cc, lv]] w R := by
  have HR := Lib.hid hR
  have Hv := Lib.hid hv
  have Hc := Lib.hid hcols
  have Hrs := Lib.hid hrs
  obtain ⟨av, cv2, rfl, -, -, -, -⟩ := hv.form
  have hll := hv.len
  clear hR hv hcols hrs
  go_enter Tryz.func71, Tryz.ntmps71
  go_upto_region 1 with fail
  have hBa := (Below.refl w.heap.size w).alloc (Nat.le_refl _) (.cells #[.slice ac cols.length cc, .slice av l.length cv2] 50)
  have hba := Blk.new w [.slice ac cols.length cc, .slice av l.length cv2] 50 rfl
  generalize w.alloc (.cells #[.slice ac cols.length cc, .slice av l.length cv2] 50) = w1 at *
  have HBa := Lib.hid hBa
  have Hba := Lib.hid hba
  have hz1 := hBa.size
  have hbl := hba.lt
  obtain ⟨d0, d1⟩ := hba.cells.c2
  simp only [Nat.zero_add] at d1
  clear hBa hba
  go_wp2_with fail
  refine refOnce_any lc hc cols _ _ (Sl.below Hc.out Strs.loc HBa.out hhc) _ ?_
  cases ho : onceB cols
  · have hr := HR.out w1 HBa.out
    rw [show mayRel cols l = false by unfold mayRel; rw [ho]; rfl] at hr
    clear ho
    go_wp2_with fail
    first | exact hr | exact fin hr rfl
  have Ho := Lib.hid ho
  clear ho
  by_cases hgt : 100000 < l.length
  · have hr := HR.out w1 HBa.out
    rw [show mayRel cols l = false by unfold mayRel; rw [decide_eq_false (by omega)]; simp] at hr
    have c1 : (100000 : Int) < (l.length : Int) := by omega
    go_wp2_with fail
    first | exact hr | exact fin hr rfl
  have c1 : ¬ (100000 : Int) < (l.length : Int) := by omega
  go_wp2_with fail
  go_loopw [4] (fun t4 wr => ∃ k : Nat, k ≤ l.length ∧ t4 = .int .i64 k ∧ (∀ i, i < k → mayAt cols l i = true) ∧ Below w1.heap.size w1 wr) (fun t4 _ => l.length - (intOf t4).toNat)
  case atStart => exact ⟨0, Nat.zero_le _, rfl, fun i hi => absurd hi (Nat.not_lt_zero _), Below.refl _ _⟩
  case round =>
    obtain ⟨k, hk, rfl, hok, hB⟩ := hrel
    obtain ⟨wo, ewo⟩ : ∃ x, x = wr := ⟨_, rfl⟩
    subst ewo
    clear d0 d1
    have Hok := Lib.hid hok
    have HB := Lib.hid hB
    have HBw := Lib.hid (HBa.out.trans (hB.mono hz1))
    have hz := HBw.out.size
    have kk0 : (0 : Int) ≤ (k : Int) := by omega
    have Hbo := Lib.hid (Hba.out.below hB hbl)
    obtain ⟨d0, d1⟩ := Hbo.out.cells.c2
    simp only [Nat.zero_add] at d1
    have hzo := hB.size
    clear hB hok
    by_cases hlt : k < l.length
    · have kkl : (k : Int) < (l.length : Int) := by omega
      have Hvl := Lib.hid (Sl.below Hv.out rowE_loc HBw.out hhi)
      obtain ⟨b4, o4, rfl, hb4, hrow4⟩ := Rws.at Hvl.out (by omega) (by omega)
      obtain ⟨p2, c2, g2, r2⟩ := hrow4 k hlt
      have G2 := Lib.hid g2
      have R2 := Lib.hid r2
      have M2 := Lib.hid (Hrs.out _ (List.getElem_mem hlt))
      have hxl := r2.len
      by_cases hne : l[k].length = cols.length
      · have He : Hid (l[k].length = cols.length) := Lib.hid hne
        have c3 : ((l[k].length : Int) != (cols.length : Int)) = false := by simp; omega
        by_cases hk0 : k = 0
        · have Hk0 : Hid (k = 0) := Lib.hid hk0
          have hnx : Hid (∀ i, i < k + 1 → mayAt cols l i = true) := Lib.hid (fun i hi => by
            obtain rfl : i = 0 := by omega
            unfold mayAt
            rw [getDS l _ 0 (by omega)]
            have := He.out
            subst hk0
            simp [this])
          have c4 : ((k : Int) == 0) = true := by simp; omega
          clear hrow4 g2 r2 hne hk0
          generalize l[k] = xb at *
          go_upto_region 7 with fail
          skip
          refine wp_region_held_drew (S := fun w' => w' = wo.drew) (by kernel_rfl) rfl (fun hHeld => ?_)
          refine wpAnyH_take (i := 0) (v := .pointer (some ⟨w.heap.size, 1, none⟩)) rfl (by kernel_rfl) (by kernel_rfl) (by kernel_rfl) (fun _ _ _ h => h) (Or.inl ⟨by rfl, ?_⟩) hHeld ?_
          · intro w' hSw; subst hSw; go_simp <;> omega
          try simp only [Act.put, List.getElem_toArray, List.getElem_cons_succ, List.getElem_cons_zero, List.setIfInBounds_toArray, List.set_cons_zero, List.set_cons_succ]
          refine wpAnyH_take (i := 1) (v := .slice (some ⟨b4, o4, none⟩) l.length cv2) rfl (by kernel_rfl) (by kernel_rfl) (by kernel_rfl) (fun _ _ _ h => h) (Or.inl ⟨by rfl, ?_⟩) hHeld ?_
          · intro w' hSw; subst hSw; have kx := d1; go_simp
          try simp only [Act.put, List.getElem_toArray, List.getElem_cons_succ, List.getElem_cons_zero, List.setIfInBounds_toArray, List.set_cons_zero, List.set_cons_succ]
          refine wpAnyH_take (i := 2) (v := .int .i64 ((k : Int))) rfl (by kernel_rfl) (by kernel_rfl) (by kernel_rfl) (fun _ _ _ h => h) (Or.inl ⟨by rfl, ?_⟩) hHeld ?_
          · intro w' hSw; subst hSw; go_simp <;> omega
          try simp only [Act.put, List.getElem_toArray, List.getElem_cons_succ, List.getElem_cons_zero, List.setIfInBounds_toArray, List.set_cons_zero, List.set_cons_succ]
          refine wpAnyH_take (i := 3) (v := .pointer (some ⟨b4, o4 + k, none⟩)) rfl (by kernel_rfl) (by kernel_rfl) (by kernel_rfl) (fun _ _ _ h => h) (Or.inl ⟨by rfl, ?_⟩) hHeld ?_
          · intro w' hSw; subst hSw; go_simp <;> omega
          try simp only [Act.put, List.getElem_toArray, List.getElem_cons_succ, List.getElem_cons_zero, List.setIfInBounds_toArray, List.set_cons_zero, List.set_cons_succ]
          refine wpAnyH_take (i := 4) (v := .slice p2 xb.length c2) rfl (by kernel_rfl) (by kernel_rfl) (by kernel_rfl) (fun _ _ _ h => h) (Or.inl ⟨by rfl, ?_⟩) hHeld ?_
          · intro w' hSw; subst hSw; have kx := G2.out _ (Below.refl _ _); go_simp
          try simp only [Act.put, List.getElem_toArray, List.getElem_cons_succ, List.getElem_cons_zero, List.setIfInBounds_toArray, List.set_cons_zero, List.set_cons_succ]
          refine wpAnyH_take (i := 5) (v := .int .i64 ((xb.length : Int))) rfl (by kernel_rfl) (by kernel_rfl) (by kernel_rfl) (fun _ _ _ h => h) (Or.inl ⟨by rfl, ?_⟩) hHeld ?_
          · intro w' hSw; subst hSw; go_simp <;> omega
          try simp only [Act.put, List.getElem_toArray, List.getElem_cons_succ, List.getElem_cons_zero, List.setIfInBounds_toArray, List.set_cons_zero, List.set_cons_succ]
          refine wpAnyH_take (i := 6) (v := .pointer (some ⟨w.heap.size, 0, none⟩)) rfl (by kernel_rfl) (by kernel_rfl) (by kernel_rfl) (fun _ _ _ h => h) (Or.inl ⟨by rfl, ?_⟩) hHeld ?_
          · intro w' hSw; subst hSw; go_simp <;> omega
          try simp only [Act.put, List.getElem_toArray, List.getElem_cons_succ, List.getElem_cons_zero, List.setIfInBounds_toArray, List.set_cons_zero, List.set_cons_succ]
          refine wpAnyH_take (i := 7) (v := .slice ac cols.length cc) rfl (by kernel_rfl) (by kernel_rfl) (by kernel_rfl) (fun _ _ _ h => h) (Or.inl ⟨by rfl, ?_⟩) hHeld ?_
          · intro w' hSw; subst hSw; have kx := d0; go_simp
          try simp only [Act.put, List.getElem_toArray, List.getElem_cons_succ, List.getElem_cons_zero, List.setIfInBounds_toArray, List.set_cons_zero, List.set_cons_succ]
          refine wpAnyH_take (i := 8) (v := .int .i64 ((cols.length : Int))) rfl (by kernel_rfl) (by kernel_rfl) (by kernel_rfl) (fun _ _ _ h => h) (Or.inl ⟨by rfl, ?_⟩) hHeld ?_
          · intro w' hSw; subst hSw; go_simp <;> omega
          try simp only [Act.put, List.getElem_toArray, List.getElem_cons_succ, List.getElem_cons_zero, List.setIfInBounds_toArray, List.set_cons_zero, List.set_cons_succ]
          refine wpAnyH_take (i := 9) (v := .bool false) rfl (by kernel_rfl) (by kernel_rfl) (by kernel_rfl) (fun _ _ _ h => h) (Or.inl ⟨by rfl, ?_⟩) hHeld ?_
          · intro w' hSw; subst hSw; go_simp <;> omega
          try simp only [Act.put, List.getElem_toArray, List.getElem_cons_succ, List.getElem_cons_zero, List.setIfInBounds_toArray, List.set_cons_zero, List.set_cons_succ]
          refine wpAnyH_done (by kernel_rfl) ?_ _
          clear hHeld
          go_wp2_with fail
          go_roundw
          case rel => exact ⟨k + 1, by omega, by go_num, hnx.out, HB.out.drew⟩
          case measure => simp [intOf]; omega
        · obtain ⟨j, ej⟩ : ∃ j, j = k - 1 := ⟨_, rfl⟩
          have hjl : j < l.length := by omega
          have hkj : (k : Int) - 1 = (j : Int) := by omega
          have jj0 : (0 : Int) ≤ (j : Int) := by omega
          have jjl : (j : Int) < (l.length : Int) := by omega
          have c4 : ((k : Int) == 0) = false := by simp; omega
          obtain ⟨p1, c1', g1, r1⟩ := hrow4 j hjl
          have G1 := Lib.hid g1
          have R1 := Lib.hid r1
          have M1 := Lib.hid (Hrs.out _ (List.getElem_mem hjl))
          have Hat : Hid (mayAt cols l k = decide (cmpR l[j] l[k] < 0)) := Lib.hid (by
            unfold mayAt
            rw [getDS l _ k hlt, getDS l _ (k - 1) (by omega), He.out]
            subst ej
            simp [hk0])
          have Hno : Hid (mayAt cols l k = false → mayRel cols l = false) := Lib.hid (mayRel_no hlt)
          have Hnx : Hid (mayAt cols l k = true → ∀ i, i < k + 1 → mayAt cols l i = true) := Lib.hid (fun h i hi => by
            by_cases e : i = k
            · rw [e]; exact h
            · exact Hok.out i (by omega))
          clear hrow4 g2 r2 g1 r1 hne ej hk0
          generalize l[k] = xb at *
          generalize l[j] = xa at *
          go_upto_region 7 with fail
          refine wp_region_held_drew (S := fun w' => w' = wo.drew) (by kernel_rfl) rfl (fun hHeld => ?_)
          refine wpAnyH_take (i := 0) (v := .pointer (some ⟨w.heap.size, 1, none⟩)) rfl (by kernel_rfl) (by kernel_rfl) (by kernel_rfl) (fun _ _ _ h => h) (Or.inl ⟨by rfl, ?_⟩) hHeld ?_
          · intro w' hSw; subst hSw; go_simp <;> omega
          try simp only [Act.put, List.getElem_toArray, List.getElem_cons_succ, List.getElem_cons_zero, List.setIfInBounds_toArray, List.set_cons_zero, List.set_cons_succ]
          refine wpAnyH_take (i := 1) (v := .slice (some ⟨b4, o4, none⟩) l.length cv2) rfl (by kernel_rfl) (by kernel_rfl) (by kernel_rfl) (fun _ _ _ h => h) (Or.inl ⟨by rfl, ?_⟩) hHeld ?_
          · intro w' hSw; subst hSw; have kx := d1; go_simp
          try simp only [Act.put, List.getElem_toArray, List.getElem_cons_succ, List.getElem_cons_zero, List.setIfInBounds_toArray, List.set_cons_zero, List.set_cons_succ]
          refine wpAnyH_take (i := 2) (v := .int .i64 ((k : Int))) rfl (by kernel_rfl) (by kernel_rfl) (by kernel_rfl) (fun _ _ _ h => h) (Or.inl ⟨by rfl, ?_⟩) hHeld ?_
          · intro w' hSw; subst hSw; go_simp <;> omega
          try simp only [Act.put, List.getElem_toArray, List.getElem_cons_succ, List.getElem_cons_zero, List.setIfInBounds_toArray, List.set_cons_zero, List.set_cons_succ]
          refine wpAnyH_take (i := 3) (v := .pointer (some ⟨b4, o4 + k, none⟩)) rfl (by kernel_rfl) (by kernel_rfl) (by kernel_rfl) (fun _ _ _ h => h) (Or.inl ⟨by rfl, ?_⟩) hHeld ?_
          · intro w' hSw; subst hSw; go_simp <;> omega
          try simp only [Act.put, List.getElem_toArray, List.getElem_cons_succ, List.getElem_cons_zero, List.setIfInBounds_toArray, List.set_cons_zero, List.set_cons_succ]
          refine wpAnyH_take (i := 4) (v := .slice p2 xb.length c2) rfl (by kernel_rfl) (by kernel_rfl) (by kernel_rfl) (fun _ _ _ h => h) (Or.inl ⟨by rfl, ?_⟩) hHeld ?_
          · intro w' hSw; subst hSw; have kx := G2.out _ (Below.refl _ _); go_simp
          try simp only [Act.put, List.getElem_toArray, List.getElem_cons_succ, List.getElem_cons_zero, List.setIfInBounds_toArray, List.set_cons_zero, List.set_cons_succ]
          refine wpAnyH_take (i := 5) (v := .int .i64 ((xb.length : Int))) rfl (by kernel_rfl) (by kernel_rfl) (by kernel_rfl) (fun _ _ _ h => h) (Or.inl ⟨by rfl, ?_⟩) hHeld ?_
          · intro w' hSw; subst hSw; go_simp <;> omega
          try simp only [Act.put, List.getElem_toArray, List.getElem_cons_succ, List.getElem_cons_zero, List.setIfInBounds_toArray, List.set_cons_zero, List.set_cons_succ]
          refine wpAnyH_take (i := 6) (v := .pointer (some ⟨w.heap.size, 0, none⟩)) rfl (by kernel_rfl) (by kernel_rfl) (by kernel_rfl) (fun _ _ _ h => h) (Or.inl ⟨by rfl, ?_⟩) hHeld ?_
          · intro w' hSw; subst hSw; go_simp <;> omega
          try simp only [Act.put, List.getElem_toArray, List.getElem_cons_succ, List.getElem_cons_zero, List.setIfInBounds_toArray, List.set_cons_zero, List.set_cons_succ]
          refine wpAnyH_take (i := 7) (v := .slice ac cols.length cc) rfl (by kernel_rfl) (by kernel_rfl) (by kernel_rfl) (fun _ _ _ h => h) (Or.inl ⟨by rfl, ?_⟩) hHeld ?_
          · intro w' hSw; subst hSw; have kx := d0; go_simp
          try simp only [Act.put, List.getElem_toArray, List.getElem_cons_succ, List.getElem_cons_zero, List.setIfInBounds_toArray, List.set_cons_zero, List.set_cons_succ]
          refine wpAnyH_take (i := 8) (v := .int .i64 ((cols.length : Int))) rfl (by kernel_rfl) (by kernel_rfl) (by kernel_rfl) (fun _ _ _ h => h) (Or.inl ⟨by rfl, ?_⟩) hHeld ?_
          · intro w' hSw; subst hSw; go_simp <;> omega
          try simp only [Act.put, List.getElem_toArray, List.getElem_cons_succ, List.getElem_cons_zero, List.setIfInBounds_toArray, List.set_cons_zero, List.set_cons_succ]
          refine wpAnyH_take (i := 9) (v := .bool false) rfl (by kernel_rfl) (by kernel_rfl) (by kernel_rfl) (fun _ _ _ h => h) (Or.inl ⟨by rfl, ?_⟩) hHeld ?_
          · intro w' hSw; subst hSw; go_simp <;> omega
          try simp only [Act.put, List.getElem_toArray, List.getElem_cons_succ, List.getElem_cons_zero, List.setIfInBounds_toArray, List.set_cons_zero, List.set_cons_succ]
          refine wpAnyH_done (by kernel_rfl) ?_ _
          clear hHeld
          go_upto_region 10 with fail
          have hS0 : Below wo.heap.size wo wo.drew.drew := (Below.refl _ _).drew.drew
          refine wp_region_held_drew (S := fun w' => Below wo.heap.size wo w') (by kernel_rfl) hS0 (fun hHeld => ?_)
          refine wpAnyH_take (i := 0) (v := .pointer (some ⟨w.heap.size, 1, none⟩)) rfl (by kernel_rfl) (by kernel_rfl) (by kernel_rfl) (fun _ _ _ h => h) (Or.inl ⟨by rfl, ?_⟩) hHeld ?_
          · intro w' hSw; go_simp
          try simp only [Act.put, List.getElem_toArray, List.getElem_cons_succ, List.getElem_cons_zero, List.setIfInBounds_toArray, List.set_cons_zero, List.set_cons_succ]
          refine wpAnyH_take (i := 1) (v := .slice (some ⟨b4, o4, none⟩) l.length cv2) rfl (by kernel_rfl) (by kernel_rfl) (by kernel_rfl) (fun _ _ _ h => h) (Or.inl ⟨by rfl, ?_⟩) hHeld ?_
          · intro w' hSw; obtain ⟨z0, z1⟩ := (Hbo.out.below hSw (by omega)).cells.c2; simp only [Nat.zero_add] at z1; go_simp
          try simp only [Act.put, List.getElem_toArray, List.getElem_cons_succ, List.getElem_cons_zero, List.setIfInBounds_toArray, List.set_cons_zero, List.set_cons_succ]
          refine wpAnyH_take (i := 2) (v := .int .i64 ((k : Int))) rfl (by kernel_rfl) (by kernel_rfl) (by kernel_rfl) (fun _ _ _ h => h) (Or.inl ⟨by rfl, ?_⟩) hHeld ?_
          · intro w' hSw; go_simp
          try simp only [Act.put, List.getElem_toArray, List.getElem_cons_succ, List.getElem_cons_zero, List.setIfInBounds_toArray, List.set_cons_zero, List.set_cons_succ]
          refine wpAnyH_take (i := 3) (v := .int .i64 ((j : Int))) rfl (by kernel_rfl) (by kernel_rfl) (by kernel_rfl) (fun _ _ _ h => h) (Or.inl ⟨by rfl, ?_⟩) hHeld ?_
          · intro w' hSw; go_simp; exact wrapOk jj0 (by omega)
          try simp only [Act.put, List.getElem_toArray, List.getElem_cons_succ, List.getElem_cons_zero, List.setIfInBounds_toArray, List.set_cons_zero, List.set_cons_succ]
          refine wpAnyH_take (i := 4) (v := .pointer (some ⟨b4, o4 + j, none⟩)) rfl (by kernel_rfl) (by kernel_rfl) (by kernel_rfl) (fun _ _ _ h => h) (Or.inl ⟨by rfl, ?_⟩) hHeld ?_
          · intro w' hSw; go_simp
          try simp only [Act.put, List.getElem_toArray, List.getElem_cons_succ, List.getElem_cons_zero, List.setIfInBounds_toArray, List.set_cons_zero, List.set_cons_succ]
          refine wpAnyH_take (i := 5) (v := .slice p1 xa.length c1') rfl (by kernel_rfl) (by kernel_rfl) (by kernel_rfl) (fun _ _ _ h => h) (Or.inl ⟨by rfl, ?_⟩) hHeld ?_
          · intro w' hSw; have kx := G1.out w' hSw; go_simp
          try simp only [Act.put, List.getElem_toArray, List.getElem_cons_succ, List.getElem_cons_zero, List.setIfInBounds_toArray, List.set_cons_zero, List.set_cons_succ]
          refine wpAnyH_take (i := 6) (v := .pointer (some ⟨w.heap.size, 1, none⟩)) rfl (by kernel_rfl) (by kernel_rfl) (by kernel_rfl) (fun _ _ _ h => h) (Or.inl ⟨by rfl, ?_⟩) hHeld ?_
          · intro w' hSw; go_simp
          try simp only [Act.put, List.getElem_toArray, List.getElem_cons_succ, List.getElem_cons_zero, List.setIfInBounds_toArray, List.set_cons_zero, List.set_cons_succ]
          refine wpAnyH_take (i := 7) (v := .slice (some ⟨b4, o4, none⟩) l.length cv2) rfl (by kernel_rfl) (by kernel_rfl) (by kernel_rfl) (fun _ _ _ h => h) (Or.inl ⟨by rfl, ?_⟩) hHeld ?_
          · intro w' hSw; obtain ⟨z0, z1⟩ := (Hbo.out.below hSw (by omega)).cells.c2; simp only [Nat.zero_add] at z1; go_simp
          try simp only [Act.put, List.getElem_toArray, List.getElem_cons_succ, List.getElem_cons_zero, List.setIfInBounds_toArray, List.set_cons_zero, List.set_cons_succ]
          refine wpAnyH_take (i := 8) (v := .int .i64 ((k : Int))) rfl (by kernel_rfl) (by kernel_rfl) (by kernel_rfl) (fun _ _ _ h => h) (Or.inl ⟨by rfl, ?_⟩) hHeld ?_
          · intro w' hSw; go_simp
          try simp only [Act.put, List.getElem_toArray, List.getElem_cons_succ, List.getElem_cons_zero, List.setIfInBounds_toArray, List.set_cons_zero, List.set_cons_succ]
          refine wpAnyH_take (i := 9) (v := .pointer (some ⟨b4, o4 + k, none⟩)) rfl (by kernel_rfl) (by kernel_rfl) (by kernel_rfl) (fun _ _ _ h => h) (Or.inl ⟨by rfl, ?_⟩) hHeld ?_
          · intro w' hSw; go_simp
          try simp only [Act.put, List.getElem_toArray, List.getElem_cons_succ, List.getElem_cons_zero, List.setIfInBounds_toArray, List.set_cons_zero, List.set_cons_succ]
          refine wpAnyH_take (i := 10) (v := .slice p2 xb.length c2) rfl (by kernel_rfl) (by kernel_rfl) (by kernel_rfl) (fun _ _ _ h => h) (Or.inl ⟨by rfl, ?_⟩) hHeld ?_
          · intro w' hSw; have kx := G2.out w' hSw; go_simp
          try simp only [Act.put, List.getElem_toArray, List.getElem_cons_succ, List.getElem_cons_zero, List.setIfInBounds_toArray, List.set_cons_zero, List.set_cons_succ]
          refine wpAnyH_ready (rs := [11]) (by kernel_rfl) (by simp) ?_
          refine allCall (f := 47) (args := #[.slice p1 xa.length c1', .slice p2 xb.length c2]) rfl (by kernel_rfl) (by kernel_rfl) ?_ AllReadyH.nil
          refine refRowsCompare_any _ _ _ _ xa xb _ _ wo.drew.drew (Sl.below R1.out Row1.loc hHeld (by omega)) (Sl.below R2.out Row1.loc hHeld (by omega)) (by have := hHeld.size; omega) (by have := hHeld.size; omega) M1.out M2.out _ (fun wq1 hB => ?_)
          refine ⟨_, rfl, hHeld.trans (hB.mono hHeld.size), ?_⟩
          have hHeld2 := hHeld.trans (hB.mono hHeld.size)
          clear hHeld
          have hHeld := hHeld2
          clear hHeld2
          clear hB
          try simp only [Act.put, List.getElem_toArray, List.getElem_cons_succ, List.getElem_cons_zero, List.setIfInBounds_toArray, List.set_cons_zero, List.set_cons_succ]
          refine wpAnyH_take (i := 12) (v := .int .i64 (cmpR xa xb)) rfl (by kernel_rfl) (by kernel_rfl) (by kernel_rfl) (fun _ _ _ h => h) (Or.inl ⟨by rfl, ?_⟩) hHeld ?_
          · intro w' hSw; go_simp
          try simp only [Act.put, List.getElem_toArray, List.getElem_cons_succ, List.getElem_cons_zero, List.setIfInBounds_toArray, List.set_cons_zero, List.set_cons_succ]
          have HH2 := Lib.hid hHeld
          refine wpAnyH_done (by kernel_rfl) ?_ _
          clear hHeld
          have HB5 := Lib.hid (HB.out.trans (HH2.out.mono (by omega)))
          have HB5w := Lib.hid (HBw.out.trans (HH2.out.mono hz))
          by_cases hc0 : cmpR xa xb < 0
          · have hnx := Lib.hid (Hnx.out (by rw [Hat.out]; exact decide_eq_true hc0))
            have c5 : ¬ (0 : Int) ≤ cmpR xa xb := by omega
            clear hc0 Hno Hnx
            generalize cmpR xa xb = cv at *
            go_wp2_with fail
            go_roundw
            case rel => exact ⟨k + 1, by omega, by go_num, hnx.out, HB5.out⟩
            case measure => simp [intOf]; omega
          · have hr := HR.out _ HB5w.out
            rw [Hno.out (by rw [Hat.out]; exact decide_eq_false hc0)] at hr
            have c5 : (0 : Int) ≤ cmpR xa xb := by omega
            clear hc0 Hno Hnx
            generalize cmpR xa xb = cv at *
            go_wp2_with fail
            first | exact hr | exact fin hr rfl
      · have hr := HR.out wo.drew HBw.out.drew
        rw [mayRel_no hlt (by unfold mayAt; rw [getDS l _ k hlt]; simp [hne])] at hr
        have c3 : ((l[k].length : Int) != (cols.length : Int)) = true := by simp; omega
        clear hrow4 g2 r2 hne
        generalize l[k] = xb at *
        go_upto_region 7 with fail
        refine wp_region_held_drew (S := fun w' => w' = wo.drew) (by kernel_rfl) rfl (fun hHeld => ?_)
        refine wpAnyH_take (i := 0) (v := .pointer (some ⟨w.heap.size, 1, none⟩)) rfl (by kernel_rfl) (by kernel_rfl) (by kernel_rfl) (fun _ _ _ h => h) (Or.inl ⟨by rfl, ?_⟩) hHeld ?_
        · intro w' hSw; subst hSw; go_simp <;> omega
        try simp only [Act.put, List.getElem_toArray, List.getElem_cons_succ, List.getElem_cons_zero, List.setIfInBounds_toArray, List.set_cons_zero, List.set_cons_succ]
        refine wpAnyH_take (i := 1) (v := .slice (some ⟨b4, o4, none⟩) l.length cv2) rfl (by kernel_rfl) (by kernel_rfl) (by kernel_rfl) (fun _ _ _ h => h) (Or.inl ⟨by rfl, ?_⟩) hHeld ?_
        · intro w' hSw; subst hSw; have kx := d1; go_simp
        try simp only [Act.put, List.getElem_toArray, List.getElem_cons_succ, List.getElem_cons_zero, List.setIfInBounds_toArray, List.set_cons_zero, List.set_cons_succ]
        refine wpAnyH_take (i := 2) (v := .int .i64 ((k : Int))) rfl (by kernel_rfl) (by kernel_rfl) (by kernel_rfl) (fun _ _ _ h => h) (Or.inl ⟨by rfl, ?_⟩) hHeld ?_
        · intro w' hSw; subst hSw; go_simp <;> omega
        try simp only [Act.put, List.getElem_toArray, List.getElem_cons_succ, List.getElem_cons_zero, List.setIfInBounds_toArray, List.set_cons_zero, List.set_cons_succ]
        refine wpAnyH_take (i := 3) (v := .pointer (some ⟨b4, o4 + k, none⟩)) rfl (by kernel_rfl) (by kernel_rfl) (by kernel_rfl) (fun _ _ _ h => h) (Or.inl ⟨by rfl, ?_⟩) hHeld ?_
        · intro w' hSw; subst hSw; go_simp <;> omega
        try simp only [Act.put, List.getElem_toArray, List.getElem_cons_succ, List.getElem_cons_zero, List.setIfInBounds_toArray, List.set_cons_zero, List.set_cons_succ]
        refine wpAnyH_take (i := 4) (v := .slice p2 xb.length c2) rfl (by kernel_rfl) (by kernel_rfl) (by kernel_rfl) (fun _ _ _ h => h) (Or.inl ⟨by rfl, ?_⟩) hHeld ?_
        · intro w' hSw; subst hSw; have kx := G2.out _ (Below.refl _ _); go_simp
        try simp only [Act.put, List.getElem_toArray, List.getElem_cons_succ, List.getElem_cons_zero, List.setIfInBounds_toArray, List.set_cons_zero, List.set_cons_succ]
        refine wpAnyH_take (i := 5) (v := .int .i64 ((xb.length : Int))) rfl (by kernel_rfl) (by kernel_rfl) (by kernel_rfl) (fun _ _ _ h => h) (Or.inl ⟨by rfl, ?_⟩) hHeld ?_
        · intro w' hSw; subst hSw; go_simp <;> omega
        try simp only [Act.put, List.getElem_toArray, List.getElem_cons_succ, List.getElem_cons_zero, List.setIfInBounds_toArray, List.set_cons_zero, List.set_cons_succ]
        refine wpAnyH_take (i := 6) (v := .pointer (some ⟨w.heap.size, 0, none⟩)) rfl (by kernel_rfl) (by kernel_rfl) (by kernel_rfl) (fun _ _ _ h => h) (Or.inl ⟨by rfl, ?_⟩) hHeld ?_
        · intro w' hSw; subst hSw; go_simp <;> omega
        try simp only [Act.put, List.getElem_toArray, List.getElem_cons_succ, List.getElem_cons_zero, List.setIfInBounds_toArray, List.set_cons_zero, List.set_cons_succ]
        refine wpAnyH_take (i := 7) (v := .slice ac cols.length cc) rfl (by kernel_rfl) (by kernel_rfl) (by kernel_rfl) (fun _ _ _ h => h) (Or.inl ⟨by rfl, ?_⟩) hHeld ?_
        · intro w' hSw; subst hSw; have kx := d0; go_simp
        try simp only [Act.put, List.getElem_toArray, List.getElem_cons_succ, List.getElem_cons_zero, List.setIfInBounds_toArray, List.set_cons_zero, List.set_cons_succ]
        refine wpAnyH_take (i := 8) (v := .int .i64 ((cols.length : Int))) rfl (by kernel_rfl) (by kernel_rfl) (by kernel_rfl) (fun _ _ _ h => h) (Or.inl ⟨by rfl, ?_⟩) hHeld ?_
        · intro w' hSw; subst hSw; go_simp <;> omega
        try simp only [Act.put, List.getElem_toArray, List.getElem_cons_succ, List.getElem_cons_zero, List.setIfInBounds_toArray, List.set_cons_zero, List.set_cons_succ]
        refine wpAnyH_take (i := 9) (v := .bool true) rfl (by kernel_rfl) (by kernel_rfl) (by kernel_rfl) (fun _ _ _ h => h) (Or.inl ⟨by rfl, ?_⟩) hHeld ?_
        · intro w' hSw; subst hSw; go_simp <;> omega
        try simp only [Act.put, List.getElem_toArray, List.getElem_cons_succ, List.getElem_cons_zero, List.setIfInBounds_toArray, List.set_cons_zero, List.set_cons_succ]
        refine wpAnyH_done (by kernel_rfl) ?_ _
        clear hHeld
        go_wp2_with fail
        first | exact hr | exact fin hr rfl
    · have llt : ¬ (k : Int) < (l.length : Int) := by omega
      have hr := HR.out wo HBw.out
      rw [mayRel_yes Ho.out (by omega) (fun i hi => Hok.out i (by omega))] at hr
      go_wp2_with fail
      first | exact hr | exact fin hr rfl
end Go.Proofs.YtmconajkgjfplaaGreat
end

/- The document's Project, Rename and Has. (Printed by rowy.py.) -/
section
set_option linter.unusedVariables false
set_option linter.unusedSimpArgs false
namespace Go.Proofs.YtmconajkgjfplaaGreat
open Go.RowKit
set_option linter.unusedVariables false
set_option linter.unusedSimpArgs false
attribute [local go_sem ↓] Go.wp_at_zero Go.wp_at_succ

theorem refMadeP_any (lo hi lc hc : Nat) (cols : List S) (ac : Option Addr) (cc : Nat) (l : List (List V)) (lv : Value) (w : World) (hcols : Strs lc hc w (.slice ac cols.length cc) cols) (hhc : hc ≤ w.heap.size) (hv : Rws lo hi w lv l) (hhi : hi ≤ w.heap.size) (hlen : l.length ≤ 1000000000000) (hrl : ∀ x ∈ l, x.length ≤ 4000000000000) (hrs : ∀ x ∈ l, ∀ a ∈ x, a.s.length ≤ 9223372036854775807) (R : Ending → World → Prop)
    (hR : ∀ w' cv2 lv2, Below w.heap.size w w' → Strs lc hc w' cv2 (okL (madeErr cols l) cols) → Rws w.heap.size w'.heap.size w' lv2 (okL (madeErr cols l) (relCanon l)) → R (.returned (.tuple #[.agg #[cv2, lv2], .int .i64 (madeErr cols l)])) w') :
    Calls Tryz.prog 76 #[.slice ac cols.length cc, lv] w R := by
  refine refMade_any lo hi cols ac cc l lv w hv hhi hlen hrl hrs R (fun hb w' hB => ?_) (fun h1 h2 w' lv2 hB hO => ?_)
  · have e : madeErr cols l = 140 := if_pos hb
    have := hR w' _ _ hB (by rw [e]; exact Sl.nil _ _ _ _ _) (by rw [e]; exact Sl.nil _ _ _ _ _)
    rw [e] at this
    exact this
  · have e : madeErr cols l = 0 := if_neg (by omega)
    have := hR w' _ lv2 hB (by rw [e]; exact Sl.below hcols Strs.loc hB hhc) (by rw [e]; exact hO)
    rw [e] at this
    exact this
/-- The end of a document's function that hands back a relation. -/
theorem refTail {w5 : World} {b : Nat} {pc pr : Option Addr} {nc nr qc qr : Nat} {x0 x1 : Value} (hb : Blk w5 b [x0, x1] 50) :
    (loadVar 50 ⟨b, 0, none⟩).run Tryz.prog ((w5.setCell ⟨b, 0, none⟩ (.slice pc nc qc)).setCell ⟨b, 1, none⟩ (.slice pr nr qr)) = .ok (.agg #[.slice pc nc qc, .slice pr nr qr]) ((w5.setCell ⟨b, 0, none⟩ (.slice pc nc qc)).setCell ⟨b, 1, none⟩ (.slice pr nr qr)) ∧
    (∀ lo hi, b < lo ∨ hi ≤ b → Agree lo hi w5 ((w5.setCell ⟨b, 0, none⟩ (.slice pc nc qc)).setCell ⟨b, 1, none⟩ (.slice pr nr qr))) ∧ ((w5.setCell ⟨b, 0, none⟩ (.slice pc nc qc)).setCell ⟨b, 1, none⟩ (.slice pr nr qr)).heap.size = w5.heap.size :=
  ⟨((hb.set 0 (.slice pc nc qc)).set 1 (.slice pr nr qr)).cells.runVar (fun _ => by kernel_rfl) (fun _ => by kernel_rfl), fun lo hi h => (Agree.setCell w5 (p := ⟨b, 0, none⟩) h _).trans (Agree.setCell _ (p := ⟨b, 1, none⟩) h _), by simp⟩
theorem pick_str {x : List V} {ks : List Int} (h : ∀ a ∈ x, a.s.length ≤ 9223372036854775807) : ∀ a ∈ pickL x ks, a.s.length ≤ 9223372036854775807 := by
  intro a ha
  obtain ⟨k, hk, rfl⟩ := List.mem_map.1 ha
  by_cases hl : k.toNat < x.length
  · rw [getDS x _ _ hl]; exact h _ (List.getElem_mem hl)
  · rw [List.getD_eq_getElem?_getD, List.getElem?_eq_none (by omega)]
    exact Nat.zero_le _
theorem pick_len (x : List V) (cols rc : List S) : (pickL x (placesL cols rc)).length = cols.length := by unfold pickL placesL; simp
set_option maxRecDepth 100000 in
set_option maxHeartbeats 4000000 in
theorem refProject_any (lo hi lc hc l2 h2 : Nat) (rc : List S) (ac : Option Addr) (cc : Nat) (l : List (List V)) (lv : Value) (cols : List S) (cv : Value) (w : World) (hrc : Strs lc hc w (.slice ac rc.length cc) rc) (hhc : hc ≤ w.heap.size) (hv : Rws lo hi w lv l) (hhi : hi ≤ w.heap.size) (hcols : Strs l2 h2 w cv cols) (hh2 : h2 ≤ w.heap.size) (hlen : cols.length ≤ 1000000000000) (hll : l.length ≤ 1000000000000) (hrs : ∀ x ∈ l, ∀ a ∈ x, a.s.length ≤ 9223372036854775807) (R : Ending → World → Prop)
    (hR : ∀ w' cv2 lv2, Below w.heap.size w w' → Strs l2 h2 w' cv2 (okL (projErr rc l cols) cols) → Rws w.heap.size w'.heap.size w' lv2 (okL (projErr rc l cols) (relCanon (l.map fun x => pickL x (placesL cols rc)))) → R (.returned (.tuple #[.agg #[cv2, lv2], .int .i64 (projErr rc l cols)])) w') :
    Calls Tryz.prog 44 #[.agg #[.slice ac rc.length cc, lv], cv] w R := by
  have HR := Lib.hid hR
  have Hv := Lib.hid hv
  have Hrc := Lib.hid hrc
  have Hc := Lib.hid hcols
  have Hrs := Lib.hid hrs
  obtain ⟨av, cv2, rfl, -, -, -, -⟩ := hv.form
  obtain ⟨ak, ck, rfl, -, -, -, -⟩ := hcols.form
  have hkl := hcols.len
  have hrl := hrc.len
  have hlv := hv.len
  clear hR hv hrc hcols hrs
  have hs1 : (w.alloc (.cells #[.slice ac rc.length cc, .slice av l.length cv2] 50)).heap.size = w.heap.size + 1 := by simp
  have hB1 := alloc_below w (.cells #[.slice ac rc.length cc, .slice av l.length cv2] 50)
  have hb1 := Blk.new w [.slice ac rc.length cc, .slice av l.length cv2] 50 rfl
  have hB2 := alloc_below (w.alloc (.cells #[.slice ac rc.length cc, .slice av l.length cv2] 50)) (.cells #[.slice none 0 0, .slice none 0 0] 50)
  have hb2 := Blk.new (w.alloc (.cells #[.slice ac rc.length cc, .slice av l.length cv2] 50)) [.slice none 0 0, .slice none 0 0] 50 hs1.symm
  have hb12 := hb1.below hB2 hb1.lt
  have hB := hB1.trans (hB2.mono hB1.size)
  go_enter Tryz.func44, Tryz.ntmps44
  go_upto_region 1 with fail
  generalize (w.alloc (.cells #[.slice ac rc.length cc, .slice av l.length cv2] 50)).alloc (.cells #[.slice none 0 0, .slice none 0 0] 50) = w2 at *
  have HB := Lib.hid hB
  have Hb1 := Lib.hid hb12
  have Hb2 := Lib.hid hb2
  have hz2 := hB.size
  have hl1 := hb12.lt
  have hl2 := hb2.lt
  obtain ⟨c0, c1⟩ := hb12.cells.c2
  simp only [Nat.zero_add] at c1
  clear hB1 hb1 hs1 hB2 hb2 hb12 hB
  go_wp2_with fail
  refine refMay_any lo hi lc hc rc _ _ l _ w2 (Sl.below Hrc.out Strs.loc HB.out hhc) (by omega) (Sl.below Hv.out rowE_loc HB.out hhi) (by omega) Hrs.out _ (fun w5 hB5 => ?_)
  have HB25 := Lib.hid hB5
  have hz5 := hB5.size
  have HB5 := Lib.hid (HB.out.trans (hB5.mono (by omega)))
  have hl25 : w.heap.size + 1 < w5.heap.size := by omega
  have Hb5 := Lib.hid (Hb1.out.below hB5 hl1)
  have Hb6 := Lib.hid (Hb2.out.below hB5 hl2)
  clear hB5 c0 c1
  obtain ⟨c0, c1⟩ := Hb5.out.cells.c2
  simp only [Nat.zero_add] at c1
  go_wp2_with fail
  refine within_any l2 h2 lc hc cols rc _ _ w5 (Sl.below Hc.out Strs.loc HB5.out hh2) (Sl.below Hrc.out Strs.loc HB5.out hhc) _ ?_
  go_wp2_with fail
  refine refOnce_any l2 h2 cols _ w5 (Sl.below Hc.out Strs.loc HB5.out hh2) _ ?_
  cases hm : mayRel rc l
  · obtain ⟨e0, e1⟩ := Hb6.out.cells.c2
    have f0 := Hb6.out.free 0
    have f1 := Hb6.out.free 1
    simp only [Nat.zero_add] at e1
    have he : projErr rc l cols = 2 := by unfold projErr; rw [hm]; rfl
    obtain ⟨t1, t2, t3⟩ := refTail (pc := none) (pr := none) (nc := 0) (nr := 0) (qc := 0) (qr := 0) Hb6.out
    have hr := HR.out _ _ _ ((HB5.out.setCell (p := ⟨w.heap.size + 1, 0, none⟩) (Nat.le_succ _) (.slice none 0 0)).setCell (p := ⟨w.heap.size + 1, 1, none⟩) (Nat.le_succ _) (.slice none 0 0)) (by rw [he]; exact Sl.nil _ _ _ _ _) (by rw [he]; exact Sl.nil _ _ _ _ _)
    rw [he] at hr
    have Hr := Lib.hid hr
    have Ht := Lib.hid t1
    clear hr t1 t2 t3 he hm
    go_wp2_with fail
    exact ret_cell_tmp rfl rfl Ht.out rfl rfl Hr.out
  have Hm := Lib.hid hm
  clear hm
  cases hw : withinB cols rc
  · obtain ⟨e0, e1⟩ := Hb6.out.cells.c2
    have f0 := Hb6.out.free 0
    have f1 := Hb6.out.free 1
    simp only [Nat.zero_add] at e1
    have he : projErr rc l cols = 2 := by unfold projErr; rw [hw, Hm.out]; rfl
    obtain ⟨t1, t2, t3⟩ := refTail (pc := none) (pr := none) (nc := 0) (nr := 0) (qc := 0) (qr := 0) Hb6.out
    have hr := HR.out _ _ _ ((HB5.out.setCell (p := ⟨w.heap.size + 1, 0, none⟩) (Nat.le_succ _) (.slice none 0 0)).setCell (p := ⟨w.heap.size + 1, 1, none⟩) (Nat.le_succ _) (.slice none 0 0)) (by rw [he]; exact Sl.nil _ _ _ _ _) (by rw [he]; exact Sl.nil _ _ _ _ _)
    rw [he] at hr
    have Hr := Lib.hid hr
    have Ht := Lib.hid t1
    clear hr t1 t2 t3 he hw
    go_wp2_with fail
    exact ret_cell_tmp rfl rfl Ht.out rfl rfl Hr.out
  have Hw := Lib.hid hw
  clear hw
  cases hon : onceB cols
  · obtain ⟨e0, e1⟩ := Hb6.out.cells.c2
    have f0 := Hb6.out.free 0
    have f1 := Hb6.out.free 1
    simp only [Nat.zero_add] at e1
    have he : projErr rc l cols = 2 := by unfold projErr; rw [hon, Hm.out, Hw.out]; rfl
    obtain ⟨t1, t2, t3⟩ := refTail (pc := none) (pr := none) (nc := 0) (nr := 0) (qc := 0) (qr := 0) Hb6.out
    have hr := HR.out _ _ _ ((HB5.out.setCell (p := ⟨w.heap.size + 1, 0, none⟩) (Nat.le_succ _) (.slice none 0 0)).setCell (p := ⟨w.heap.size + 1, 1, none⟩) (Nat.le_succ _) (.slice none 0 0)) (by rw [he]; exact Sl.nil _ _ _ _ _) (by rw [he]; exact Sl.nil _ _ _ _ _)
    rw [he] at hr
    have Hr := Lib.hid hr
    have Ht := Lib.hid t1
    clear hr t1 t2 t3 he hon
    go_wp2_with fail
    exact ret_cell_tmp rfl rfl Ht.out rfl rfl Hr.out
  have he : projErr rc l cols = madeErr cols (l.map fun x => pickL x (placesL cols rc)) := by unfold projErr; rw [hon, Hm.out, Hw.out]; rfl
  rw [he] at HR
  clear he hon
  go_upto_region 8 with fail
  go_loopw [9, 10] (fun t9 t10 wr => ∃ (k : Nat) (hs : List Value), k ≤ l.length ∧ t10 = .int .i64 k ∧ OwnR w5.heap.size wr t9 hs ((l.take k).map fun x => pickL x (placesL cols rc)) ∧ Below w5.heap.size w5 wr) (fun _ t10 _ => l.length - (intOf t10).toNat)
  case atStart => exact ⟨0, [], Nat.zero_le _, rfl, OwnR.nil _ _, Below.refl _ _⟩
  case round =>
    obtain ⟨k, hs, hk, rfl, ho, hB⟩ := hrel
    obtain ⟨wo, ewo⟩ : ∃ x, x = wr := ⟨_, rfl⟩
    subst ewo
    have Ho := Lib.hid ho
    have HBo := Lib.hid hB
    have HBw := Lib.hid (HB5.out.trans (hB.mono (by omega)))
    have hzo := hB.size
    have Hbo := Lib.hid (Hb5.out.below hB (by omega))
    have kk0 : (0 : Int) ≤ (k : Int) := by omega
    obtain ⟨po, co, hpo⟩ := Own.slice ho.own
    have Hsl : Hid (hs.length = k) := Lib.hid (by rw [ho.len, List.length_map, List.length_take]; omega)
    clear ho hB c0 c1
    obtain ⟨c0, c1⟩ := Hbo.out.cells.c2
    simp only [Nat.zero_add] at c1
    by_cases hlt : k < l.length
    · have kkl : (k : Int) < (l.length : Int) := by omega
      obtain ⟨b4, o4, rfl, hb4, hrow4⟩ := Rws.at (Sl.below Hv.out rowE_loc HBw.out hhi) (by omega) (by omega)
      obtain ⟨p2, c2, g2, r2⟩ := hrow4 k hlt
      have G2 := Lib.hid g2
      have R2 := Lib.hid r2
      have Hst : Hid ((l.take (k + 1)).map (fun x => pickL x (placesL cols rc)) = (l.take k).map (fun x => pickL x (placesL cols rc)) ++ [pickL l[k] (placesL cols rc)]) := Lib.hid (by rw [List.take_succ_eq_append_getElem hlt, List.map_append]; rfl)
      have Hxl : Hid (l[k].length = rc.length) := Lib.hid (may_len Hm.out _ (List.getElem_mem hlt))
      clear hrow4 g2 r2
      generalize l[k] = xb at *
      subst hpo
      go_upto_region 10 with fail
      have hS0 : Below wo.heap.size wo wo.drew := (Below.refl _ _).drew
      refine wp_region_held_drew (S := fun w' => Below wo.heap.size wo w') (by kernel_rfl) hS0 (fun hHeld => ?_)
      refine wpAnyH_take (i := 0) (v := .pointer (some ⟨w.heap.size, 1, none⟩)) rfl (by kernel_rfl) (by kernel_rfl) (by kernel_rfl) (fun _ _ _ h => h) (Or.inl ⟨by rfl, ?_⟩) hHeld ?_
      · intro w' hSw; go_simp
      try simp only [Act.put, List.getElem_toArray, List.getElem_cons_succ, List.getElem_cons_zero, List.setIfInBounds_toArray, List.set_cons_zero, List.set_cons_succ]
      refine wpAnyH_take (i := 1) (v := .slice (some ⟨b4, o4, none⟩) l.length cv2) rfl (by kernel_rfl) (by kernel_rfl) (by kernel_rfl) (fun _ _ _ h => h) (Or.inl ⟨by rfl, ?_⟩) hHeld ?_
      · intro w' hSw; obtain ⟨z0, z1⟩ := (Hbo.out.below hSw (by omega)).cells.c2; simp only [Nat.zero_add] at z1; go_simp
      try simp only [Act.put, List.getElem_toArray, List.getElem_cons_succ, List.getElem_cons_zero, List.setIfInBounds_toArray, List.set_cons_zero, List.set_cons_succ]
      refine wpAnyH_take (i := 2) (v := .int .i64 ((k : Int))) rfl (by kernel_rfl) (by kernel_rfl) (by kernel_rfl) (fun _ _ _ h => h) (Or.inl ⟨by rfl, ?_⟩) hHeld ?_
      · intro w' hSw; go_simp
      try simp only [Act.put, List.getElem_toArray, List.getElem_cons_succ, List.getElem_cons_zero, List.setIfInBounds_toArray, List.set_cons_zero, List.set_cons_succ]
      refine wpAnyH_take (i := 3) (v := .pointer (some ⟨b4, o4 + k, none⟩)) rfl (by kernel_rfl) (by kernel_rfl) (by kernel_rfl) (fun _ _ _ h => h) (Or.inl ⟨by rfl, ?_⟩) hHeld ?_
      · intro w' hSw; go_simp
      try simp only [Act.put, List.getElem_toArray, List.getElem_cons_succ, List.getElem_cons_zero, List.setIfInBounds_toArray, List.set_cons_zero, List.set_cons_succ]
      refine wpAnyH_take (i := 4) (v := .slice p2 xb.length c2) rfl (by kernel_rfl) (by kernel_rfl) (by kernel_rfl) (fun _ _ _ h => h) (Or.inl ⟨by rfl, ?_⟩) hHeld ?_
      · intro w' hSw; have kx := G2.out w' hSw; go_simp
      try simp only [Act.put, List.getElem_toArray, List.getElem_cons_succ, List.getElem_cons_zero, List.setIfInBounds_toArray, List.set_cons_zero, List.set_cons_succ]
      refine wpAnyH_take (i := 5) (v := .slice ak cols.length ck) rfl (by kernel_rfl) (by kernel_rfl) (by kernel_rfl) (fun _ _ _ h => h) (Or.inl ⟨by rfl, ?_⟩) hHeld ?_
      · intro w' hSw; go_simp
      try simp only [Act.put, List.getElem_toArray, List.getElem_cons_succ, List.getElem_cons_zero, List.setIfInBounds_toArray, List.set_cons_zero, List.set_cons_succ]
      refine wpAnyH_take (i := 6) (v := .pointer (some ⟨w.heap.size, 0, none⟩)) rfl (by kernel_rfl) (by kernel_rfl) (by kernel_rfl) (fun _ _ _ h => h) (Or.inl ⟨by rfl, ?_⟩) hHeld ?_
      · intro w' hSw; go_simp
      try simp only [Act.put, List.getElem_toArray, List.getElem_cons_succ, List.getElem_cons_zero, List.setIfInBounds_toArray, List.set_cons_zero, List.set_cons_succ]
      refine wpAnyH_take (i := 7) (v := .slice ac rc.length cc) rfl (by kernel_rfl) (by kernel_rfl) (by kernel_rfl) (fun _ _ _ h => h) (Or.inl ⟨by rfl, ?_⟩) hHeld ?_
      · intro w' hSw; obtain ⟨z0, z1⟩ := (Hbo.out.below hSw (by omega)).cells.c2; simp only [Nat.zero_add] at z1; go_simp
      try simp only [Act.put, List.getElem_toArray, List.getElem_cons_succ, List.getElem_cons_zero, List.setIfInBounds_toArray, List.set_cons_zero, List.set_cons_succ]
      refine wpAnyH_ready (rs := [8]) (by kernel_rfl) (by simp) ?_
      refine allCall (f := 75) (args := #[.slice p2 xb.length c2, .slice ak cols.length ck, .slice ac rc.length cc]) rfl (by kernel_rfl) (by kernel_rfl) ?_ AllReadyH.nil
      have HBd := Lib.hid (HBw.out.trans (hS0.mono (by omega)))
      refine refPick_any lo hi l2 h2 lc hc xb cols rc _ _ _ wo.drew (Sl.below R2.out Row1.loc hS0 (by omega)) (by show hi ≤ wo.heap.size; omega) (Sl.below Hc.out Strs.loc HBd.out hh2) (by show h2 ≤ wo.heap.size; omega) (Sl.below Hrc.out Strs.loc HBd.out hhc) (by show hc ≤ wo.heap.size; omega) Hw.out Hxl.out hlen _ (fun wq vq hBq hoq => ?_)
      have hBq' : Below wo.heap.size wo wq := hS0.trans hBq
      refine ⟨_, rfl, hBq', ?_⟩
      obtain ⟨py, hpy⟩ : ∃ py, pickL xb (placesL cols rc) = py := ⟨_, rfl⟩
      rw [hpy] at hoq Hst
      obtain ⟨pq, qq, rfl⟩ := Own.slice hoq
      have HBq := Lib.hid hBq'
      have Hoq : Hid (OwnV wo.heap.size wq (.slice pq py.length qq) py) := Lib.hid hoq
      clear hBq' hBq hoq hHeld hpy
      have hHeld := HBq.out
      try simp only [Act.put, List.getElem_toArray, List.getElem_cons_succ, List.getElem_cons_zero, List.setIfInBounds_toArray, List.set_cons_zero, List.set_cons_succ]
      refine wpAnyH_take (i := 9) (v := .slice pq py.length qq) rfl (by kernel_rfl) (by kernel_rfl) (by kernel_rfl) (fun _ _ _ h => h) (Or.inl ⟨by rfl, ?_⟩) hHeld ?_
      · intro w' hSw; go_simp
      try simp only [Act.put, List.getElem_toArray, List.getElem_cons_succ, List.getElem_cons_zero, List.setIfInBounds_toArray, List.set_cons_zero, List.set_cons_succ]
      refine wpAnyH_done (by kernel_rfl) ?_ _
      clear hHeld
      have Ho2 := Lib.hid (Ho.out.kept HBq.out)
      have hzq := HBq.out.size
      have hya : ∀ q, (Value.slice pq py.length qq).ownBlock = some q → (Value.slice po hs.length co).ownBlock ≠ some q := fun q hq2 e => by
        have h1 := (Own.lt Hoq.out q hq2).1
        have h2 := (Own.lt Ho.out.own q e).2
        omega
      obtain ⟨v3, w3, hr3, ho3, ha3⟩ := appH1 Ho2.out.own pq py.length qq rfl (by rw [Hsl.out]; omega) (by omega)
      have HO3 := Lib.hid (Ho2.out.snoc (Own.lower Hoq.out (by omega)) hya ho3 ha3)
      have HB3 := Lib.hid ((HBo.out.trans (HBq.out.mono (by omega))).trans (ha3.below (B := w5.heap.size) (by omega) (fun q e => (Own.lt Ho.out.own q e).1)))
      clear ho3 ha3 hya
      go_wp2_with (at_builtin; refine AtApp.of ?_)
      refine AtApp.go hr3 rfl rfl rfl rfl ?_
      go_wp2_with fail
      go_roundw
      case rel => exact ⟨k + 1, _, by omega, by go_num, by rw [Hst.out]; exact HO3.out, HB3.out⟩
      case measure => simp [intOf]; omega
    · obtain rfl : k = l.length := by omega
      have llt : ¬ ((l.length : Nat) : Int) < (l.length : Int) := by omega
      have hO := Ho.out
      rw [List.take_length] at hO
      have HO := Lib.hid hO
      clear hO
      have hll2 : (l.map fun x => pickL x (placesL cols rc)).length ≤ 1000000000000 := by rw [List.length_map]; exact hll
      have HB5M := Lib.hid HBo.out
      rw [Hsl.out] at hpo
      subst hpo
      go_wp2_with fail
      refine refMadeP_any w5.heap.size wo.heap.size l2 h2 cols _ _ (l.map fun x => pickL x (placesL cols rc)) _ wo (Sl.below Hc.out Strs.loc HBw.out hh2) (by omega) (OwnR.rws HO.out) (Nat.le_refl _) hll2 (fun x hx => by
        obtain ⟨y, hy, rfl⟩ := List.mem_map.1 hx
        rw [pick_len]; omega) (fun x hx => by
        obtain ⟨y, hy, rfl⟩ := List.mem_map.1 hx
        exact pick_str (Hrs.out y hy)) _ (fun w7 cv7 lv7 hB7 hT7 hO7 => ?_)
      generalize hE : madeErr cols (l.map fun x => pickL x (placesL cols rc)) = err at *
      generalize okL err cols = oc at *
      generalize okL err (relCanon (l.map fun x => pickL x (placesL cols rc))) = ol at *
      obtain ⟨p7, q7, rfl, -, -, -, -⟩ := hT7.form
      obtain ⟨p8, q8, rfl, -, -, -, -⟩ := hO7.form
      have hB57 : Below w5.heap.size w5 w7 := HB5M.out.trans (hB7.mono (by omega))
      have hb7 := Hb6.out.below hB57 hl25
      obtain ⟨e0, e1⟩ := hb7.cells.c2
      have f0 := hb7.free 0
      have f1 := hb7.free 1
      simp only [Nat.zero_add] at e1
      obtain ⟨t1, t2, t3⟩ := refTail (pc := p7) (pr := p8) (nc := oc.length) (nr := ol.length) (qc := q7) (qr := q8) hb7
      have hr := HR.out _ _ _ (((HB5.out.trans (hB57.mono (by omega))).setCell (p := ⟨w.heap.size + 1, 0, none⟩) (Nat.le_succ _) (.slice p7 oc.length q7)).setCell (p := ⟨w.heap.size + 1, 1, none⟩) (Nat.le_succ _) (.slice p8 ol.length q8)) (Sl.agree hT7 Strs.loc (t2 _ _ (.inr (by omega)))) (Sl.mono (Sl.agree hO7 rowE_loc (t2 _ _ (.inl (by omega)))) rowE_loc (by omega) (Nat.le_of_eq t3.symm))
      have Hr := Lib.hid hr
      have Ht := Lib.hid t1
      clear hr t1 t2 t3 hb7 hB57 hB7 hT7 hO7
      go_wp2_with fail
      exact ret_cell_tmp rfl rfl Ht.out rfl rfl Hr.out
end Go.Proofs.YtmconajkgjfplaaGreat
end

/- What RowsPicks asks of each row. -/
section
set_option linter.unusedVariables false
set_option linter.unusedSimpArgs false
namespace Go.Proofs.YtmconajkgjfplaaGreat
open Go.RowKit
set_option linter.unusedVariables false
set_option linter.unusedSimpArgs false

/-- The state of what is asked: fine, and how often it was asked. -/
structure AskJ (bf ba br lo hi : Nat) (pc av : Option Addr) (nc cc cv : Nat) (l : List (List V)) (k : Nat) (w : World) : Prop where
  fine : Blk w bf [.bool true] 4
  asked : Blk w ba [.int .i64 k] 3
  box : Blk w br [.slice pc nc cc, .slice av l.length cv] 25
  rows : Rws lo hi w (.slice av l.length cv) l
  le : hi ≤ w.heap.size
theorem AskJ.below {bf ba br lo hi : Nat} {pc av : Option Addr} {nc cc cv : Nat} {l : List (List V)} {k B : Nat} {w w' : World} (h : AskJ bf ba br lo hi pc av nc cc cv l k w) (hB : Below B w w') (h1 : bf < B) (h2 : ba < B) (h3 : br < B) (h4 : hi ≤ B) : AskJ bf ba br lo hi pc av nc cc cv l k w' :=
  ⟨h.fine.below hB h1, h.asked.below hB h2, h.box.below hB h3, Sl.below h.rows rowE_loc hB h4, Nat.le_trans h.le hB.size⟩
theorem AskJ.set {bf ba br lo hi : Nat} {pc av : Option Addr} {nc cc cv : Nat} {l : List (List V)} {k : Nat} {w : World} (h : AskJ bf ba br lo hi pc av nc cc cv l k w) {g i : Nat} (u : Value) (h1 : bf < g) (h2 : ba < g) (h3 : br < g) (h4 : hi ≤ g) : AskJ bf ba br lo hi pc av nc cc cv l k (w.setCell ⟨g, i, none⟩ u) :=
  ⟨h.fine.other (by show bf ≠ g; omega) u, h.asked.other (by show ba ≠ g; omega) u, h.box.other (by show br ≠ g; omega) u, Sl.agree h.rows rowE_loc (Agree.setCell w (p := ⟨g, i, none⟩) (.inr h4) u), by rw [show (w.setCell ⟨g, i, none⟩ u).heap.size = w.heap.size by simp]; exact h.le⟩
theorem AskJ.next {bf ba br lo hi : Nat} {pc av : Option Addr} {nc cc cv : Nat} {l : List (List V)} {k : Nat} {w : World} (h : AskJ bf ba br lo hi pc av nc cc cv l k w) (hfa : bf ≠ ba) (hfr : bf ≠ br) (har : ba ≠ br) (hfl : bf < lo ∨ hi ≤ bf) (hal : ba < lo ∨ hi ≤ ba) :
    AskJ bf ba br lo hi pc av nc cc cv l (k + 1) ((w.setCell ⟨bf, 0, none⟩ (.bool true)).setCell ⟨ba, 0, none⟩ (.int .i64 ((k : Int) + 1))) :=
  ⟨(h.fine.set 0 (.bool true)).other (p := ⟨ba, 0, none⟩) hfa _, (h.asked.other (p := ⟨bf, 0, none⟩) (fun e => hfa e.symm) (.bool true)).set 0 (.int .i64 ((k : Int) + 1)), (h.box.other (p := ⟨bf, 0, none⟩) (fun e => hfr e.symm) _).other (p := ⟨ba, 0, none⟩) (fun e => har e.symm) _,
    Sl.agree h.rows rowE_loc ((Agree.setCell w (p := ⟨bf, 0, none⟩) hfl _).trans (Agree.setCell _ (p := ⟨ba, 0, none⟩) hal _)), by simp; exact h.le⟩
end Go.Proofs.YtmconajkgjfplaaGreat
end

/- The law's told on answers that are alike. (Printed by rowr.py.) -/
section
set_option linter.unusedVariables false
set_option linter.unusedSimpArgs false
namespace Go.Proofs.YtmconajkgjfplaaGreat
open Go.RowKit
set_option linter.unusedVariables false
set_option linter.unusedSimpArgs false

/-- The blocks that are written over. -/
def TB (ca : Value) (hs : List Value) (b : Nat) : Prop := ca.ownBlock = some b ∨ ∃ h ∈ hs, h.ownBlock = some b
/-- What the walk over a's rows and columns keeps. -/
structure ToldIn (lo hi : Nat) (w wr : World) (hs : List Value) (ns : List Nat) (la ca : Value) (nc : Nat) : Prop where
  own : OwnH lo wr la hs
  len : hs.length = ns.length
  row : ∀ i (h : i < hs.length) (h2 : i < ns.length), Shp 44 3 lo hi wr hs[i] ns[i]
  col : Shp 9 1 lo hi wr ca nc
  box : Blk wr hi [ca, la] 25
  bel : Below lo w wr
  only : Only (TB ca hs) w wr
theorem ToldIn.set {lo hi : Nat} {w wr : World} {hs : List Value} {ns : List Nat} {la ca : Value} {nc : Nat} (h : ToldIn lo hi w wr hs ns la ca nc) {b i : Nat} (u : Value) (h1 : lo ≤ b) (h2 : b < hi) (h3 : la.ownBlock ≠ some b) (h4 : TB ca hs b) : ToldIn lo hi w (wr.setCell ⟨b, i, none⟩ u) hs ns la ca nc :=
  ⟨Own.setOther h.own h3 u, h.len, fun k hk h2 => (h.row k hk h2).setCell b i u, h.col.setCell b i u, h.box.other (by show hi ≠ b; omega) u, h.bel.setCell (p := ⟨b, i, none⟩) h1 u, h.only.trans (Only.setCell wr (p := ⟨b, i, none⟩) h4 u)⟩
/-- A block of relations is not written over. -/
theorem TB.not {lo : Nat} {w : World} {ca la : Value} {hs : List Value} {cols : List S} {l : List (List V)} (hT : OwnT lo w ca cols) (hR : OwnR lo w la hs l) {b : Nat} {cs : List Value} {t : TypeId} (hb : Blk w b cs t) (h1 : t ≠ 9) (h2 : t ≠ 44) : ¬ TB ca hs b := by
  rintro (h | ⟨h, hh, e⟩)
  · exact Own.ne_blk hT hb h1 h
  · obtain ⟨i, hi, rfl⟩ := List.getElem_of_mem hh
    exact Own.ne_blk (hR.row i hi (by rw [← hR.len]; exact hi)) hb h2 e
end Go.Proofs.YtmconajkgjfplaaGreat
end

/- The law RowsOf, walked. (Printed by rowt.py.) -/
section
set_option linter.unusedVariables false
set_option linter.unusedSimpArgs false
namespace Go.Proofs.YtmconajkgjfplaaGreat
open Go.RowKit
set_option linter.unusedVariables false
set_option linter.unusedSimpArgs false

end Go.Proofs.YtmconajkgjfplaaGreat
end

/- The law RowsPicks, walked. (Printed by rowp.py.) -/
section
set_option linter.unusedVariables false
set_option linter.unusedSimpArgs false
namespace Go.Proofs.YtmconajkgjfplaaGreat
open Go.RowKit
set_option linter.unusedVariables false
set_option linter.unusedSimpArgs false
attribute [local go_sem ↓] Go.wp_at_zero Go.wp_at_succ

/-- Rows of which the headers are a call's own, and the values lie in some blocks ahead of these. -/
def LS (lo a b : Nat) (w : World) (v : Value) (xs : List (List V)) : Prop :=
  ∃ hs : List HD, hs.length = xs.length ∧ OwnHD lo w v hs ∧ ∀ i (h1 : i < hs.length) (h2 : i < xs.length), Row1 a b w hs[i].v xs[i]
theorem LS.nil (lo a b : Nat) (w : World) : LS lo a b w (.slice none 0 0) [] := ⟨[], rfl, Own.nil _ _ _ _ _, fun i h => absurd h (Nat.not_lt_zero _)⟩
theorem LS.slice {lo a b : Nat} {w : World} {v : Value} {xs : List (List V)} (h : LS lo a b w v xs) : ∃ p c, v = .slice p xs.length c := by
  obtain ⟨hs, hl, ho, -⟩ := h
  obtain ⟨p, c, e⟩ := Own.slice ho
  exact ⟨p, c, by rw [e, hl]⟩
theorem LS.lt {lo a b : Nat} {w : World} {v : Value} {xs : List (List V)} (h : LS lo a b w v xs) : ∀ k, v.ownBlock = some k → lo ≤ k ∧ k < w.heap.size := by
  obtain ⟨hs, hl, ho, hr⟩ := h
  exact Own.lt ho
theorem LS.rws {lo a b : Nat} {w : World} {v : Value} {xs : List (List V)} (h : LS lo a b w v xs) (hb : b ≤ w.heap.size) : Rws 0 w.heap.size w v xs := by
  obtain ⟨hs, hl, ho, hr⟩ := h
  have hsl : Sl (flat HD.enc) 1 lo w.heap.size w v hs := Sl.ofOwn (fun _ => rfl) ho
  obtain ⟨ao, cap, hv, hle, hcm, hn, hc⟩ := hsl.form
  refine ⟨ao, cap, by rw [hv, hl], by rw [← hl]; exact hle, by simpa [maxLen] using hcm, hn, fun hne => ?_⟩
  have h0 : 0 < hs.length := by
    rw [hl]
    cases xs with
    | nil => exact absurd rfl hne
    | cons a r => simp
  obtain ⟨b', off, rfl, hb1, hb2, hcc⟩ := hc 0 h0
  refine ⟨b', off, rfl, Nat.zero_le _, hb2, fun k hk => ?_⟩
  have hk' : k < hs.length := by rw [hl]; exact hk
  obtain ⟨cs, hcl, hcs, rfl⟩ := hcc k hk'
  exact ⟨_, hcl, hcs, hs[k].v, rfl, (hr k hk' hk).mono Row1.loc (Nat.zero_le _) hb⟩
theorem LS.same {lo a b : Nat} {w w' : World} {v : Value} {xs : List (List V)} (h : LS lo a b w v xs) (hv : ∀ g, v.ownBlock = some g → w'.heap[g]? = w.heap[g]?) (ha : Agree a b w w') : LS lo a b w' v xs := by
  obtain ⟨hs, hl, ho, hr⟩ := h
  exact ⟨hs, hl, Own.same ho hv, fun i h1 h2 => (hr i h1 h2).agree Row1.loc ha⟩
theorem LS.snoc {lo a b : Nat} {w : World} {v : Value} {xs : List (List V)} (h : LS lo a b w v xs) (hbl : b ≤ lo) (pa : Option Addr) (pc : Nat) (x : List V) (hx : Row1 a b w (.slice pa x.length pc) x) {n : Nat} (hn : n = w.heap.size) (hb : xs.length ≤ 4000000000000) (hlo : lo ≤ w.heap.size) :
    ∃ v' w', (Builtin.append_ #[23, 23] 23 #[v, .slice (some ⟨n, 0, none⟩) 1 1]).run Tryz.prog (w.alloc (.cells #[.slice pa x.length pc] 36)) = .ok v' w' ∧ LS lo a b w' v' (xs ++ [x]) ∧ Appended w v w' v' := by
  subst hn
  obtain ⟨hs, hl, ho, hr⟩ := h
  have hB := alloc_below w (.cells (HD.enc ⟨pa, x.length, pc⟩).toArray 36)
  obtain ⟨i0, hi, hz0, hz1, hz2⟩ := info_parts infoHD
  have hc := CellsAt.newAt w (HD.enc ⟨pa, x.length, pc⟩) 36 rfl
  have hsr : Src Tryz.prog 1 23 (.slice (some ⟨w.heap.size, 0, none⟩) 1 1) [(⟨pa, x.length, pc⟩ : HD)].length ([(⟨pa, x.length, pc⟩ : HD)].flatMap HD.enc) (w.alloc (.cells (HD.enc ⟨pa, x.length, pc⟩).toArray 36)) :=
    Src.ofSlice _ Tryz.underlying23 _ _ _ _ (by simp [HD.enc]) (fun j u hu => by rw [Addr.add_lit]; exact hc j u (by simpa using hu)) (fun u hu => by
      rw [List.flatMap_cons, List.flatMap_nil, List.append_nil] at hu
      exact HD.one _ u hu)
  obtain ⟨v', w', hrun, ho', hap⟩ := (Own.kept ho hB).app _ _ _ i0 _ 24 Tryz.underlying23 hi hz0 hz1 hz2 rfl hsr (by simp only [List.length_cons, List.length_nil]; omega) (by omega) (Nat.le_trans hlo hB.size)
  have hapw := (Appended.step v hB).trans hap
  have hag : Agree a b w w' := hapw.agree (by omega) (fun k e => .inr (by have := (Own.lt ho k e).1; omega))
  refine ⟨v', w', hrun, ⟨hs ++ [⟨pa, x.length, pc⟩], by simp [hl], ho', fun i h1 h2 => ?_⟩, hapw⟩
  by_cases hi2 : i < hs.length
  · rw [List.getElem_append_left hi2, List.getElem_append_left (by omega)]
    exact (hr i hi2 (by omega)).agree Row1.loc hag
  · have e1 : i = hs.length := by rw [List.length_append, List.length_singleton] at h1; omega
    subst e1
    rw [List.getElem_append_right (Nat.le_refl _), List.getElem_append_right (by omega)]
    simp only [hl, Nat.sub_self, List.getElem_cons_zero]
    exact hx.agree Row1.loc hag
end Go.Proofs.YtmconajkgjfplaaGreat
end

/- Rows sorted by key, in place: slices.SortStableFunc as fold.groups asks it. -/
section
set_option linter.unusedVariables false
set_option linter.unusedSimpArgs false
namespace Go.Proofs.YtmconajkgjfplaaGreat
open Go.RowKit Go.Sort Go.Shelf
set_option linter.unusedVariables false
set_option linter.unusedSimpArgs false
attribute [local go_sem ↓] Go.wp_at_zero Go.wp_at_succ

/-- A header and its row, of which the places are. -/
abbrev KRow (a b : Nat) (at' : List Int) (w : World) : Type := { p : HD × List V // Row1 a b w p.1.v p.2 ∧ AtOk p.2.length at' }
def krE {a b : Nat} {at' : List Int} {w : World} (p : KRow a b at' w) : Value := p.1.1.v
def krC {a b : Nat} {at' : List Int} {w : World} (p q : KRow a b at' w) : Int := cmpR (pickL p.1.2 at') (pickL q.1.2 at')
theorem kr_one {a b : Nat} {at' : List Int} {w : World} : OneCell (krE (a := a) (b := b) (at' := at') (w := w)) := fun p => rfl
theorem kr_swo {a b : Nat} {at' : List Int} {w : World} : SWO (ltOf (krC (a := a) (b := b) (at' := at') (w := w))) where
  irrefl p := by
    unfold ltOf krC
    rw [cmpR_cmp.self]
    simp
  trans p q r h1 h2 := by
    unfold ltOf krC at *
    simp only [decide_eq_true_eq] at *
    exact cmpR_cmp.trans _ _ _ h1 h2
  ntrans p q r h1 h2 := by
    unfold ltOf krC at *
    simp only [decide_eq_false_iff_not] at *
    generalize pickL p.1.2 at' = x at *
    generalize pickL q.1.2 at' = y at *
    generalize pickL r.1.2 at' = z at *
    intro h3
    have a1 := cmpR_cmp.three x y
    have a2 := cmpR_cmp.three y z
    by_cases e1 : cmpR x y = 0
    · rw [(cmpR_cmp.zero _ _).1 e1] at h3; omega
    · by_cases e2 : cmpR y z = 0
      · rw [← (cmpR_cmp.zero _ _).1 e2] at h3; omega
      · have b1 := cmpR_cmp.anti x y
        have b2 := cmpR_cmp.anti y z
        have := cmpR_cmp.trans z y x (by omega) (by omega)
        have b3 := cmpR_cmp.anti x z
        omega
theorem cmpKey_sort {a b la ha bt g n : Nat} {at' : List Int} {va : Value} {w : World} [Inhabited (KRow a b at' w)] (hbg : b ≤ g) (hag : ha ≤ g) (htg : bt < g) (hg : g < w.heap.size) (hb : Blk w bt [va] 58) (hat : Ints la ha w va at') (hlen : at'.length ≤ 1000000000000) :
    CmpLays1 Tryz.prog 53 #[.pointer (some ⟨bt, 0, none⟩)] (krE (a := a) (b := b) (at' := at') (w := w)) krC g 0 n w := by
  intro m os dk hs x y
  have hB : Below g w (sortWorld krE w g 0 m dk os) := below_sort dk (Nat.le_refl _) hg
  have hz := hB.size
  exact cmpKey_any a b a b la ha bt x.1.2 y.1.2 at' x.1.1.v y.1.1.v va (sortWorld krE w g 0 m dk os) (Sl.below x.2.1 Row1.loc hB hbg) (by omega) (Sl.below y.2.1 Row1.loc hB hbg) (by omega) (hb.below hB htg) (Sl.below hat Ints.loc hB hag) (by omega) x.2.2 y.2.2 hlen
    (fun e w' => e = .returned (.int .i64 (krC x y)) ∧ ∃ q os', w' = grow ((sortWorld krE w g 0 m dk os).drewN q) os') (fun w' hg => ⟨rfl, hg⟩)
theorem flat_HD (l : List HD) : l.flatMap HD.enc = l.map HD.v := by
  induction l with
  | nil => rfl
  | cons x r ih => rw [List.flatMap_cons, ih]; rfl
/-! ### at no row -/
set_option maxRecDepth 100000 in
set_option maxHeartbeats 2000000 in
theorem insertion_none (p : Option Addr) (cap : Nat) (fv : Value) (w : World) (R : Ending → World → Prop) (hR : R (.returned (.tuple #[])) w) :
    Calls Tryz.prog 94 #[.slice p 0 cap, .int .i64 0, .int .i64 0, fv] w R := by
  have h := AnyF.insertionSortCmpFunc_none (P := Tryz.prog) (ρ := sortRows_ren) { sortRows with } p cap fv w
  exact h.mono (fun e w' ⟨he, hw⟩ => by rw [he, hw]; exact hR)
set_option maxRecDepth 100000 in
set_option maxHeartbeats 2000000 in
theorem stable_none (p : Option Addr) (cap : Nat) (fv : Value) (w : World) (R : Ending → World → Prop) (hR : R (.returned (.tuple #[])) w) :
    Calls Tryz.prog 81 #[.slice p 0 cap, .int .i64 0, fv] w R := by
  have HR := Lib.hid hR
  clear hR
  go_enter Tryz.func81, Tryz.ntmps81
  go_wp2_with fail
  go_loopw [7, 8] (fun t7 t8 wr => t7 = .int .i64 0 ∧ t8 = .int .i64 20 ∧ w = wr) (fun _ t8 _ => 0)
  case atStart => exact ⟨rfl, rfl, rfl⟩
  case round =>
    obtain ⟨rfl, rfl, rfl⟩ := hrel
    go_wp2_with fail
    refine insertion_none p cap fv _ _ ?_
    go_wp2_with fail
    go_loopw [6] (fun t6 wr => t6 = .int .i64 20 ∧ w = wr) (fun _ _ => 0)
    case atStart => exact ⟨rfl, rfl⟩
    case round =>
      obtain ⟨rfl, rfl⟩ := hrel
      go_wp2_with fail
      go_end0
      exact HR.out
/-! ### any rows -/
set_option maxRecDepth 100000 in
set_option maxHeartbeats 4000000 in
theorem stableRows_any (lo a b la ha bt : Nat) (v va : Value) (xs : List (List V)) (at' : List Int) (w : World) (h : LS lo a b w v xs) (hbl : b ≤ lo) (hal : ha ≤ lo) (htl : bt < lo) (hb : Blk w bt [va] 58) (hat : Ints la ha w va at') (hok : ∀ x ∈ xs, AtOk x.length at') (hlen : at'.length ≤ 1000000000000) (hxl : xs.length < 1000000000000) (R : Ending → World → Prop)
    (hR : ∀ w' xs', Only (fun z => v.ownBlock = some z) w w' → LS lo a b w' v xs' → xs'.Perm xs → xs'.Pairwise (fun x y => 0 ≤ cmpR (pickL y at') (pickL x at')) → R (.returned (.tuple #[])) w') :
    Calls Tryz.prog 81 #[v, .int .i64 xs.length, .func (.func 53) #[] #[.pointer (some ⟨bt, 0, none⟩)]] w R := by
  obtain ⟨hs, hl, ho, hr⟩ := id h
  by_cases hx : hs = []
  · subst hx
    have hx2 : xs = [] := List.eq_nil_of_length_eq_zero (by rw [← hl]; rfl)
    subst hx2
    obtain ⟨p, cap, hv⟩ := Own.slice ho
    have hr2 := hR w [] (Only.refl _ _) h (List.Perm.refl _) List.Pairwise.nil
    have hv' : v = .slice p 0 cap := hv
    subst hv'
    exact stable_none p cap _ w R hr2
  · rcases ho.2 with ⟨-, hn⟩ | ⟨g, cap, cur, hv, hbg, hg, hnc, hcm, hcs, htake⟩
    · exact absurd (List.eq_nil_of_length_eq_zero hn) hx
    rw [Nat.mul_one] at hcs htake
    rw [flat_HD] at htake
    have hgl : g < w.heap.size := (Array.getElem?_eq_some_iff.1 hg).1
    have hpos : 0 < hs.length := by
      cases hs with
      | nil => exact absurd rfl hx
      | cons a r => simp
    haveI : Inhabited (KRow a b at' w) := ⟨⟨(hs[0], xs[0]'(by omega)), hr 0 hpos (by omega), hok _ (List.getElem_mem _)⟩⟩
    let d : Array (KRow a b at' w) := Array.ofFn (n := hs.length) (fun i => ⟨(hs[i.1], xs[i.1]'(by rw [← hl]; exact i.2)), hr i.1 i.2 (by rw [← hl]; exact i.2), hok _ (List.getElem_mem _)⟩)
    have hd : d.size = hs.length := Array.size_ofFn
    have hd2 : d.toList.map (fun p => p.1.2) = xs := by
      apply List.ext_getElem
      · simp [hd, hl]
      · intro i h1 h2; simp [d]
    have hH : Holds krE w g 0 d := by
      intro j hj
      have hj' : j < hs.length := by rw [← hd]; exact hj
      refine ⟨?_, by simp [World.frozen?, hg]⟩
      have h1 : (cur.toList.take hs.length)[j]? = (hs.map HD.v)[j]? := by rw [htake]
      rw [List.getElem?_take_of_lt hj'] at h1
      simp only [World.cell?, hg, Nat.zero_add]
      simp only [Option.isSome_none, Bool.false_eq_true, if_false]
      rw [← Array.getElem?_toList, h1, List.getElem?_map, List.getElem?_eq_getElem hj', getElem!_pos d j hj]
      simp [d, krE]
    have hc := stable_s krE krC kr_swo 53 #[.pointer (some ⟨bt, 0, none⟩)] g 0 cap d w (enters_of Tryz.func53 (by kernel_rfl) rfl) (cmpKey_sort (by omega) (by omega) (by omega) hgl hb hat hlen) ⟨kr_one, hH, hgl⟩ (by omega)
    rw [hd] at hc
    rw [hv, ← hl]
    refine Calls.mono hc (fun e w' ⟨he, d', hp, hso, n, os, hw⟩ => ?_)
    subst he
    have hds : d'.size = hs.length := by rw [hp.1, hd]
    have hperm : d'.toList.Perm d.toList := by
      have := hp.2.2
      rwa [Array.extract_eq_self_of_le (by omega), Array.extract_eq_self_of_le (by omega)] at this
    have hl' : (d'.toList.map fun p => p.1.1).length = hs.length := by simp [hds]
    have hgl' := size_sort (enc := krE) (w := w) (g := g) (n := n) (os := os) d'
    refine hR w' (d'.toList.map (fun p => p.1.2)) (by rw [hw, hv]; exact ⟨rfl, rfl, rfl, hgl', fun k hk hn => heap_sortOther d' hk (fun e => hn (by rw [e]; rfl))⟩) ?_ (by rw [← hd2]; exact hperm.map _) ?_
    · refine ⟨d'.toList.map (fun p => p.1.1), by simp, ?_, fun i hi h2 => ?_⟩
      · refine ⟨by rw [hl', flat_HD, Nat.mul_one, List.length_map, hl'], .inr ⟨g, cap, _, by rw [hl', hv], hbg, by rw [hw]; exact heap_sortRow d' hg, by rw [hl']; exact hnc, hcm, by simp [putCells, hcs], ?_⟩⟩
        rw [hl', flat_HD, Nat.mul_one, ← hds, List.map_map]
        exact take_putCells' krE cur d' (by omega)
      · simp only [List.getElem_map]
        rw [hw]
        exact Sl.below (d'.toList[i]'(by simpa using hi)).2.1 Row1.loc (below_sort d' hbg hgl) hbl
    · rw [List.pairwise_map, List.pairwise_iff_getElem]
      intro i j hi hj hij
      have := hso i j (Nat.zero_le _) hij (by rw [← hds]; simpa using hj)
      rw [getElem!_pos d' i (by simpa using hi), getElem!_pos d' j (by simpa using hj)] at this
      unfold ltOf krC at this
      simpa using this
set_option maxRecDepth 100000 in
set_option maxHeartbeats 4000000 in
theorem SortStable_any (lo a b la ha bt : Nat) (v va : Value) (xs : List (List V)) (at' : List Int) (w : World) (h : LS lo a b w v xs) (hbl : b ≤ lo) (hal : ha ≤ lo) (htl : bt < lo) (hb : Blk w bt [va] 58) (hat : Ints la ha w va at') (hok : ∀ x ∈ xs, AtOk x.length at') (hlen : at'.length ≤ 1000000000000) (hxl : xs.length < 1000000000000) (R : Ending → World → Prop)
    (hR : ∀ w' xs', Only (fun z => v.ownBlock = some z) w w' → LS lo a b w' v xs' → xs'.Perm xs → xs'.Pairwise (fun x y => 0 ≤ cmpR (pickL y at') (pickL x at')) → R (.returned (.tuple #[])) w') :
    Calls Tryz.prog 52 #[v, .func (.func 53) #[] #[.pointer (some ⟨bt, 0, none⟩)]] w R := by
  have HR := Lib.hid hR
  have Hh := Lib.hid h
  have Hb := Lib.hid hb
  have Hat := Lib.hid hat
  have Hok := Lib.hid hok
  obtain ⟨p, cap, rfl⟩ := LS.slice h
  clear hR h hb hat hok
  go_enter Tryz.func52, Tryz.ntmps52
  go_wp2_with fail
  refine stableRows_any lo a b la ha bt _ va xs at' w Hh.out hbl hal htl Hb.out Hat.out Hok.out hlen hxl _ (fun w' xs' hO hL hP hS => ?_)
  have hr := HR.out w' xs' hO hL hP hS
  clear hO hL hP hS
  go_wp2_with fail
  go_end0
  exact hr
/-! ### the headers copied -/
set_option maxRecDepth 100000 in
set_option maxHeartbeats 2000000 in
theorem CloneRws_any (lo hi : Nat) (l : List (List V)) (v : Value) (w : World) (hk : Rws lo hi w v l) (hhi : hi ≤ w.heap.size) (hlen : l.length ≤ 4000000000000)
    (R : Ending → World → Prop) (hR : ∀ w' v', Below w.heap.size w w' → LS w.heap.size lo hi w' v' l → R (.returned v') w') : Calls Tryz.prog 51 #[v] w R := by
  obtain ⟨hs, hl, hsl, hrow⟩ := rws_raw hk
  have Hrow := Lib.hid hrow
  have Hto : Hid (∀ w' v', Below w.heap.size w w' → OwnHD w.heap.size w' v' hs → R (.returned v') w') := Lib.hid (fun w' v' hB ho => hR w' v' hB ⟨hs, hl, ho, fun i h1 h2 => Sl.below (Hrow.out i h1 h2) Row1.loc hB hhi⟩)
  rw [← hl] at hlen
  clear hR hrow hk hl
  rcases hsl.cases with ⟨rfl, ao, cap, rfl, -, hn⟩ | ⟨hp, b, off, cap, rfl, hle, hle2, hb1, hb2, hc⟩
  · cases ao with
    | none =>
      cases hn rfl
      have hq := fun w => Lib.run_eql_slice_nil (P := Tryz.prog) w 23 36 none 0 0 0 0 Tryz.underlying23
      go_enter Tryz.func51, Tryz.ntmps51
      go_wp2_with (at_builtin; refine AtApp.of ?_)
      first | exact Hto.out _ _ (Below.refl _ _) (Own.nil _ _ _ _ _) | exact fin (Hto.out _ _ (Below.refl _ _) (Own.nil _ _ _ _ _)) rfl
    | some a =>
      have hq := fun w => Lib.run_eql_slice_nil (P := Tryz.prog) w 23 36 (some a) 0 cap 0 0 Tryz.underlying23
      have Hk := Lib.hid hsl
      clear hsl
      go_enter Tryz.func51, Tryz.ntmps51
      go_wp2_with (at_builtin; refine AtApp.of ?_)
      have hB1 : Below w.heap.size w (w.alloc (.cells #[] 36)) := (Below.refl _ _).alloc (Nat.le_refl _) _
      obtain ⟨i0, hi0, hz0, hz1, hz2⟩ := info_parts infoHD
      obtain ⟨v2, w2, hr, ho2, ha2⟩ := (Own.made HD.enc 36 1 w.heap.size w rfl (Nat.le_refl _)).app (ys := ([] : List HD)) _ _ _ i0 _ 24 Tryz.underlying23 hi0 hz0 hz1 hz2 rfl (Src.ofSl (Sl.below Hk.out (flat_loc _) hB1 hhi) (fun _ => rfl) HD.one Tryz.underlying23) (by simp) (by omega) hB1.size
      refine AtApp.go hr rfl rfl rfl rfl ?_
      have hB2 : Below w.heap.size w w2 := hB1.trans (ha2.below hB1.size (fun k e => by simp [Value.ownBlock] at e; omega))
      clear hr ha2
      go_wp2
      exact fin (Hto.out _ _ hB2 ho2) rfl
  · have Hk := Lib.hid hsl
    clear hsl hc
    have hq := fun w => Lib.run_eql_slice_nil (P := Tryz.prog) w 23 36 (some ⟨b, off, none⟩) hs.length cap 0 0 Tryz.underlying23
    go_enter Tryz.func51, Tryz.ntmps51
    go_wp2_with (at_builtin; refine AtApp.of ?_)
    have hB1 : Below w.heap.size w (w.alloc (.cells #[] 36)) := (Below.refl _ _).alloc (Nat.le_refl _) _
    obtain ⟨i0, hi0, hz0, hz1, hz2⟩ := info_parts infoHD
    obtain ⟨v2, w2, hr, ho2, ha2⟩ := (Own.made HD.enc 36 1 w.heap.size w rfl (Nat.le_refl _)).app (ys := hs) _ _ _ i0 _ 24 Tryz.underlying23 hi0 hz0 hz1 hz2 rfl (Src.ofSl (Sl.below Hk.out (flat_loc _) hB1 hhi) (fun _ => rfl) HD.one Tryz.underlying23) (by simp; omega) (by omega) hB1.size
    refine AtApp.go hr rfl rfl rfl rfl ?_
    have hB2 : Below w.heap.size w w2 := hB1.trans (ha2.below hB1.size (fun k e => by simp [Value.ownBlock] at e; omega))
    clear hr ha2
    go_wp2
    exact fin (Hto.out _ _ hB2 ho2) rfl
end Go.Proofs.YtmconajkgjfplaaGreat
end

/- Rows in groups of one key, in plain words. -/
section
set_option linter.unusedVariables false
set_option linter.unusedSimpArgs false
namespace Go.Proofs.YtmconajkgjfplaaGreat
set_option linter.unusedVariables false
set_option linter.unusedSimpArgs false

section
variable (f : List V → List V)
/-- Rows that follow one another with one key. -/
def runsK : List (List V) → List (List (List V))
  | [] => []
  | x :: r => match runsK r with
    | [] => [[x]]
    | g :: gs => if cmpR (f x) (f (g.headD [])) = 0 then (x :: g) :: gs else [x] :: g :: gs
/-- A group's key. -/
def keyG (g : List (List V)) : List V := f (g.headD [])
def oneKey (g : List (List V)) : Prop := g ≠ [] ∧ ∀ x ∈ g, f x = keyG f g
theorem runsK_flat (l : List (List V)) : (runsK f l).flatten = l := by
  induction l with
  | nil => rfl
  | cons x r ih =>
    rw [runsK]
    cases h : runsK f r with
    | nil => rw [h] at ih; simp only [List.flatten_cons, List.flatten_nil] at ih ⊢; rw [← ih]; rfl
    | cons g gs =>
      rw [h] at ih
      rw [← ih]
      show (if cmpR (f x) (f (g.headD [])) = 0 then (x :: g) :: gs else [x] :: g :: gs).flatten = x :: (g :: gs).flatten
      split <;> rfl
theorem runsK_one (l : List (List V)) : ∀ g ∈ runsK f l, oneKey f g := by
  induction l with
  | nil => intro g hg; cases hg
  | cons x r ih =>
    rw [runsK]
    cases h : runsK f r with
    | nil =>
      intro g hg
      rw [List.mem_singleton.1 hg]
      exact ⟨by simp, fun y hy => by rw [List.mem_singleton.1 hy]; rfl⟩
    | cons g gs =>
      rw [h] at ih
      show ∀ g' ∈ (if cmpR (f x) (f (g.headD [])) = 0 then (x :: g) :: gs else [x] :: g :: gs), oneKey f g'
      split
      · rename_i h0
        intro g' hg
        rcases List.mem_cons.1 hg with rfl | hg
        · refine ⟨by simp, fun y hy => ?_⟩
          rcases List.mem_cons.1 hy with rfl | hy
          · rfl
          · rw [(ih g List.mem_cons_self).2 y hy]
            exact ((cmpR_cmp.zero _ _).1 h0).symm
        · exact ih g' (List.mem_cons_of_mem _ hg)
      · intro g' hg
        rcases List.mem_cons.1 hg with rfl | hg
        · exact ⟨by simp, fun y hy => by rw [List.mem_singleton.1 hy]; rfl⟩
        · exact ih g' hg
theorem runsK_head {x : List V} {r : List (List V)} : ∃ g gs, runsK f (x :: r) = g :: gs ∧ keyG f g = f x ∧ g.headD [] = x := by
  rw [runsK]
  cases h : runsK f r with
  | nil => exact ⟨[x], [], rfl, rfl, rfl⟩
  | cons g gs =>
    show ∃ g' gs', (if cmpR (f x) (f (g.headD [])) = 0 then (x :: g) :: gs else [x] :: g :: gs) = g' :: gs' ∧ _
    split
    · exact ⟨_, _, rfl, rfl, rfl⟩
    · exact ⟨_, _, rfl, rfl, rfl⟩
theorem runsK_keys : ∀ l : List (List V), (runsK f l).map (keyG f) = compactL cmpR (l.map f)
  | [] => rfl
  | [x] => rfl
  | x :: y :: r => by
    have ih := runsK_keys (y :: r)
    obtain ⟨g, gs, h, hk, hh⟩ := runsK_head f (x := y) (r := r)
    rw [runsK, h]
    rw [h] at ih
    show (if cmpR (f x) (f (g.headD [])) = 0 then (x :: g) :: gs else [x] :: g :: gs).map (keyG f) = _
    rw [List.map_cons, List.map_cons, compactL, ← List.map_cons, ← ih, hh]
    have e := cmpR_cmp.anti (f x) (f y)
    by_cases h0 : cmpR (f x) (f y) = 0
    · rw [if_pos h0, if_pos (by omega), List.map_cons, List.map_cons, hk]
      congr 1
      exact (cmpR_cmp.zero _ _).1 h0
    · rw [if_neg h0, if_neg (by omega), List.map_cons]
      rfl
/-- The keys of rows, each once, in order. -/
def keysL (l : List (List V)) : List (List V) := canonL cmpR (l.map f)
/-- The rows with a key. -/
def withK (l : List (List V)) (k : List V) : List (List V) := l.filter fun x => cmpR (f x) k == 0
theorem runsK_canon {l m : List (List V)} (hs : l.Pairwise fun x y => 0 ≤ cmpR (f y) (f x)) (hp : l.Perm m) : (runsK f l).map (keyG f) = keysL f m := by
  rw [runsK_keys, keysL]
  refine compact_canon cmpR_cmp ?_ (fun x => (hp.map f).mem_iff)
  rw [List.pairwise_map]
  exact hs.imp (fun h => by omega)
theorem flat_filter {f : List V → List V} : ∀ (G : List (List (List V))), (∀ g ∈ G, oneKey f g) → Up cmpR (G.map (keyG f)) → ∀ k (h : k < G.length), withK f G.flatten (keyG f G[k]) = G[k]
  | [], _, _, k, h => absurd h (Nat.not_lt_zero _)
  | g :: G, h1, h2, k, h => by
    have hu := List.pairwise_cons.1 (show Up cmpR (keyG f g :: G.map (keyG f)) from h2)
    have hg := h1 g List.mem_cons_self
    rw [withK, List.flatten_cons, List.filter_append]
    cases k with
    | zero =>
      simp only [List.getElem_cons_zero]
      rw [List.filter_eq_self.2 (fun x hx => by rw [hg.2 x hx]; simp [cmpR_cmp.self]), List.filter_eq_nil_iff.2 (fun x hx => ?_), List.append_nil]
      obtain ⟨g', hg', hx'⟩ := List.mem_flatten.1 hx
      rw [(h1 g' (List.mem_cons_of_mem _ hg')).2 x hx']
      have := hu.1 _ (List.mem_map.2 ⟨g', hg', rfl⟩)
      have e := cmpR_cmp.anti (keyG f g') (keyG f g)
      simp only [beq_iff_eq]
      omega
    | succ k =>
      simp only [List.getElem_cons_succ]
      have hk : k < G.length := by simpa using h
      have := flat_filter G (fun g' hg' => h1 g' (List.mem_cons_of_mem _ hg')) hu.2 k hk
      rw [withK] at this
      rw [this, List.filter_eq_nil_iff.2 (fun x hx => ?_), List.nil_append]
      rw [hg.2 x hx]
      have := hu.1 _ (List.mem_map.2 ⟨G[k], List.getElem_mem hk, rfl⟩)
      simp only [beq_iff_eq]
      omega
/-- The rows of a group, in whatever order they were sorted. -/
theorem runsK_perm {l m : List (List V)} (hs : l.Pairwise fun x y => 0 ≤ cmpR (f y) (f x)) (hp : l.Perm m) (k : Nat) (h : k < (runsK f l).length) (h2 : k < (keysL f m).length) :
    keyG f (runsK f l)[k] = (keysL f m)[k] ∧ (runsK f l)[k].Perm (withK f m (keysL f m)[k]) := by
  have e := runsK_canon f hs hp
  have e1 : (keysL f m)[k] = keyG f (runsK f l)[k] := by
    have : ((runsK f l).map (keyG f))[k]? = (keysL f m)[k]? := by rw [e]
    rw [List.getElem?_map, List.getElem?_eq_getElem h, List.getElem?_eq_getElem h2] at this
    injection this with this
    exact this.symm
  refine ⟨e1.symm, ?_⟩
  rw [e1]
  have := flat_filter (runsK f l) (runsK_one f l) (by rw [e]; exact canon_up cmpR_cmp _) k h
  rw [runsK_flat] at this
  have h3 : (withK f l (keyG f (runsK f l)[k])).Perm (withK f m (keyG f (runsK f l)[k])) := hp.filter _
  rw [this] at h3
  exact h3
/-- How many rows lie ahead of a group. -/
def posK (G : List (List (List V))) (k : Nat) : Nat := (G.take k).flatten.length
theorem posK_succ (G : List (List (List V))) {k : Nat} (h : k < G.length) : posK G (k + 1) = posK G k + G[k].length := by
  unfold posK
  rw [List.take_succ_eq_append_getElem h, List.flatten_append, List.length_append]
  simp
theorem posK_end (G : List (List (List V))) : posK G G.length = G.flatten.length := by unfold posK; rw [List.take_length]
theorem posK_le (G : List (List (List V))) (k : Nat) : posK G k ≤ G.flatten.length := by
  have : G.flatten = (G.take k).flatten ++ (G.drop k).flatten := by rw [← List.flatten_append, List.take_append_drop]
  unfold posK
  rw [this, List.length_append]
  omega
theorem flat_split (G : List (List (List V))) {k : Nat} (h : k < G.length) : G.flatten = (G.take k).flatten ++ (G[k] ++ (G.drop (k + 1)).flatten) := by
  rw [← List.flatten_cons, List.getElem_cons_drop, ← List.flatten_append, List.take_append_drop]
theorem posK_at (G : List (List (List V))) {k i : Nat} (h : k < G.length) (hi : i < G[k].length) (h2 : posK G k + i < G.flatten.length) : G.flatten[posK G k + i] = G[k][i] := by
  have e : G.flatten[posK G k + i]? = some G[k][i] := by
    rw [flat_split G h]
    unfold posK
    rw [List.getElem?_append_right (by omega), Nat.add_sub_cancel_left, List.getElem?_append_left hi, List.getElem?_eq_getElem hi]
  rw [List.getElem?_eq_getElem h2] at e
  injection e
theorem posK_cut (G : List (List (List V))) {k : Nat} (h : k < G.length) : (G.flatten.drop (posK G k)).take G[k].length = G[k] := by
  rw [flat_split G h]
  unfold posK
  rw [List.drop_left, List.take_left]
/-- Within a group the next row has the same key; at its end, another one. -/
theorem run_next {l : List (List V)} (hs : l.Pairwise fun x y => 0 ≤ cmpR (f y) (f x)) {k i : Nat} (hk : k < (runsK f l).length) (h1 : posK (runsK f l) k ≤ i) (h2 : i < posK (runsK f l) (k + 1)) (hi : i < l.length) :
    f l[i] = keyG f (runsK f l)[k] ∧ (∀ h : i + 1 < l.length, (cmpR (f l[i]) (f l[i + 1]) = 0 ↔ i + 1 < posK (runsK f l) (k + 1))) := by
  have hfl := runsK_flat f l
  have hone := runsK_one f l
  have hup : Up cmpR ((runsK f l).map (keyG f)) := by rw [runsK_canon f hs (List.Perm.refl l)]; exact canon_up cmpR_cmp _
  generalize runsK f l = G at *
  subst hfl
  rw [posK_succ G hk] at h2 ⊢
  obtain ⟨j, rfl⟩ : ∃ j, i = posK G k + j := ⟨i - posK G k, by omega⟩
  have hj : j < G[k].length := by omega
  have e1 : f G.flatten[posK G k + j] = keyG f G[k] := by
    rw [posK_at G hk hj hi]
    exact (hone _ (List.getElem_mem hk)).2 _ (List.getElem_mem hj)
  refine ⟨e1, fun h => ?_⟩
  by_cases hn : j + 1 < G[k].length
  · have e2 : f G.flatten[posK G k + j + 1] = keyG f G[k] := by
      have e3 := posK_at G hk (i := j + 1) hn (by omega)
      have e4 : posK G k + (j + 1) = posK G k + j + 1 := by omega
      simp only [e4] at e3
      rw [e3]
      exact (hone _ (List.getElem_mem hk)).2 _ (List.getElem_mem hn)
    rw [e1, e2, cmpR_cmp.self]
    exact ⟨fun _ => by omega, fun _ => rfl⟩
  · have hs2 := posK_succ G hk
    have hk2 : k + 1 < G.length := by
      by_cases e : k + 1 = G.length
      · have := posK_end G
        rw [← e] at this
        omega
      · omega
    have h0 : 0 < G[k + 1].length := by
      have := (hone _ (List.getElem_mem hk2)).1
      cases hg : G[k + 1] with
      | nil => exact absurd hg this
      | cons a r => simp
    have hlt := posK_le G (k + 2)
    rw [posK_succ G hk2] at hlt
    have e2 : f G.flatten[posK G k + j + 1] = keyG f G[k + 1] := by
      have e3 := posK_at G hk2 h0 (by omega)
      have e4 : posK G (k + 1) + 0 = posK G k + j + 1 := by omega
      simp only [e4] at e3
      rw [e3]
      exact (hone _ (List.getElem_mem hk2)).2 _ (List.getElem_mem h0)
    have hc : cmpR (keyG f G[k]) (keyG f G[k + 1]) < 0 := by
      have := (List.pairwise_iff_getElem.1 hup) k (k + 1) (by simpa using hk) (by simpa using hk2) (by omega)
      simpa using this
    rw [e1, e2]
    constructor
    · intro e; omega
    · intro e; omega
theorem run_jump {l : List (List V)} {k : Nat} (hk : k < (runsK f l).length) :
    (posK (runsK f l) (k + 1) < l.length → k + 1 < (runsK f l).length ∧ posK (runsK f l) (k + 1) < posK (runsK f l) (k + 2)) ∧ (posK (runsK f l) (k + 1) = l.length → k + 1 = (runsK f l).length) := by
  have hfl := runsK_flat f l
  have hone := runsK_one f l
  generalize runsK f l = G at *
  subst hfl
  have hpos : ∀ j (h : j < G.length), 0 < G[j].length := fun j h => by
    have := (hone _ (List.getElem_mem h)).1
    cases hg : G[j] with
    | nil => exact absurd hg this
    | cons a r => simp
  constructor
  · intro h
    have hk2 : k + 1 < G.length := by
      by_cases e : k + 1 = G.length
      · have := posK_end G
        rw [← e] at this
        omega
      · omega
    refine ⟨hk2, ?_⟩
    rw [posK_succ G hk2]
    have := hpos _ hk2
    omega
  · intro h
    by_cases e : k + 1 = G.length
    · exact e
    · have hk2 : k + 1 < G.length := by omega
      have h2 := posK_succ G hk2
      have := hpos _ hk2
      have h3 := posK_le G (k + 2)
      have e2 : k + 1 + 1 = k + 2 := rfl
      rw [e2] at h2
      omega
theorem runsK_start {l : List (List V)} : (0 < l.length → 0 < (runsK f l).length ∧ 0 < posK (runsK f l) 1) ∧ (l.length = 0 → (runsK f l).length = 0) := by
  cases l with
  | nil => exact ⟨fun h => absurd h (Nat.not_lt_zero _), fun _ => rfl⟩
  | cons x r =>
    obtain ⟨g, gs, h, -, -⟩ := runsK_head f (x := x) (r := r)
    refine ⟨fun _ => ?_, fun e => by simp at e⟩
    have hone := (runsK_one f (x :: r)) g (by rw [h]; exact List.mem_cons_self)
    rw [h]
    refine ⟨by simp, ?_⟩
    rw [posK_succ _ (by simp)]
    cases g with
    | nil => exact absurd rfl hone.1
    | cons a t => simp; omega
end
end Go.Proofs.YtmconajkgjfplaaGreat
end

/- Or. (Printed by mec.py.) -/
section
set_option linter.unusedVariables false
set_option linter.unusedSimpArgs false
namespace Go.Proofs.YtmconajkgjfplaaGreat
open Go.RowKit
set_option linter.unusedVariables false
set_option linter.unusedSimpArgs false

def toHD (v : Value) : HD := match v with
  | .slice a n c => ⟨a, n, c⟩
  | _ => ⟨none, 0, 0⟩
theorem OwnR.slices {lo : Nat} {w : World} {v : Value} {hs : List Value} {xs : List (List V)} (h : OwnR lo w v hs xs) : ∀ u ∈ hs, ∃ a n c, u = .slice a n c := by
  intro u hu
  obtain ⟨i, hi, rfl⟩ := List.getElem_of_mem hu
  obtain ⟨p, c, e⟩ := Own.slice (h.row i hi (by rw [← h.len]; exact hi))
  exact ⟨p, _, c, e⟩
theorem hd_map {hs : List Value} (h : ∀ u ∈ hs, ∃ a n c, u = Value.slice a n c) : (hs.map toHD).flatMap HD.enc = hs.flatMap vE := by
  induction hs with
  | nil => rfl
  | cons u r ih =>
    obtain ⟨a, n, c, rfl⟩ := h u List.mem_cons_self
    rw [List.map_cons, List.flatMap_cons, List.flatMap_cons, ih (fun u hu => h u (List.mem_cons_of_mem _ hu))]
    rfl
theorem OwnR.hd {lo : Nat} {w : World} {v : Value} {hs : List Value} {xs : List (List V)} (h : OwnR lo w v hs xs) : OwnHD lo w v (hs.map toHD) := by
  show w.ownsRow lo _ 1 v (hs.map toHD).length ((hs.map toHD).flatMap HD.enc)
  rw [List.length_map, hd_map h.slices]
  exact h.own
end Go.Proofs.YtmconajkgjfplaaGreat
end

/- A range over a function: the statement, and a round of it, in the plain walk. -/
section
set_option linter.unusedVariables false
set_option linter.unusedSimpArgs false
namespace Go.Proofs.YtmconajkgjfplaaGreat
open Go.RowKit

section
variable {P : Program}
/-- A loop's record. -/
def recL (fn : FuncId) (tmps : Array Value) (ps : Array Tmp) (assign body : Code) (D : Nat) (st : LoopState) (pe : Option Code) : Loop := { state := st, pending := pe, fn, tmps, params := ps, assign, body, defers := D }
def markD (D : Nat) : Deferred := { target := .collected D, args := #[] }
theorem wp_rangeFunc {g : Operand} {ps : Array Tmp} {assign body : Code} {Q : Exit → Act → World → Prop} {a : Act} {w : World} {gf : Nat} {lb : Array Value} (n : Nat)
    (hg : a.eval g = .func (.func gf) #[] lb) (eg : ∀ args w, (callFunc gf args).run P w = .ok (.enter gf args) w)
    (h : ∀ fn, CallsIn Fence.wide n P gf (#[.func (.yield (w.heap.size + 1)) #[] #[]] ++ lb)
      ((w.alloc (.deferred (some []))).alloc (.loop (recL fn a.tmps ps assign body w.heap.size .ready none)))
      (fun e W2 => (∃ v, e = .returned v) ∧ ∃ st pe, st ≠ .busy ∧ W2.heap[w.heap.size + 1]? = some (.loop (recL fn a.tmps ps assign body w.heap.size st pe)) ∧
        (match pe with
         | none => Q .normal { a with defers := markD w.heap.size :: a.defers } (W2.putObj (w.heap.size + 1) (.loop (recL fn a.tmps ps assign body w.heap.size .exhausted none)))
         | some c => c.wp P Q { a with defers := markD w.heap.size :: a.defers } (W2.putObj (w.heap.size + 1) (.loop (recL fn a.tmps ps assign body w.heap.size .exhausted (some c))))))) :
    (Code.rangeFunc g ps assign body).wp P Q a w := by
  refine (wpIn_wide (n := n + 1)).1 (wpIn_rangeFunc ?_)
  intro fn hfn
  refine ⟨w.heap.size + 1, [markD w.heap.size], ((w.alloc (.deferred (some []))).alloc (.loop (recL fn a.tmps ps assign body w.heap.size .ready none))), { target := .fn (.func gf) lb, args := #[.func (.yield (w.heap.size + 1)) #[] #[]] }, ((w.alloc (.deferred (some []))).alloc (.loop (recL fn a.tmps ps assign body w.heap.size .ready none))), gf,
    #[.func (.yield (w.heap.size + 1)) #[] #[]] ++ lb, ((w.alloc (.deferred (some []))).alloc (.loop (recL fn a.tmps ps assign body w.heap.size .ready none))), run_enterLoop_outer fn a.tmps ps assign body, ?_, ?_, ?_, fun _ => by omega, ?_⟩
  · simp only [resolve, hg]
    simp [go_sem]
  · intro f' hf'
    trivial
  · simp [invoke, go_sem, eg]
  · refine (h fn).mono ?_
    rintro e W2 ⟨⟨v, rfl⟩, st, pe, hst, hl, hq⟩
    refine ⟨pe, _, run_endLoop hl hst, ?_⟩
    cases pe with
    | none => exact hq
    | some c => exact wpIn_wide.2 hq

/-- One round. -/
theorem yieldAt_rec {l : Nat} {fn : FuncId} {tmps : Array Value} {ps : Array Tmp} {assign body : Code} {D : Nat} {W : World} {xs : Array Value} {R : Ending → World → Prop} {n : Nat}
    (hl : W.heap[l]? = some (.loop (recL fn tmps ps assign body D .ready none))) (hs : xs.size = ps.size)
    (h : assign.wpIn (Fence.wide.inRound l) n P (Exit.then (fun a₁ w₁ => w₁.heap[l]? = some (.loop (recL fn tmps ps assign body D .ready none)) ∧
      body.wpIn (Fence.wide.inRound l) n P (roundPost P l R) a₁ (w₁.putObj l (.loop (recL fn tmps ps assign body D .busy none)))) (fun _ _ _ => False))
      { tmps := (ps.zip xs).foldl (fun t (p, v) => t.setIfInBounds p v) tmps, defers := [] } W) :
    YieldAt Fence.wide n P l xs W R := by
  have hy := run_yield (P := P) (args := xs) hl hs
  refine ⟨fn, _, assign, body, hy, roundIn_of_wpIn trivial (wpIn_mono h ?_)⟩
  rintro e a1 w1 hq
  cases e with
  | normal =>
    obtain ⟨hl1, hb⟩ := hq
    exact ⟨_, run_beginRound hl1 rfl, hb⟩
  | exit id => exact hq.elim
  | goto t => exact hq.elim
  | ret => exact hq.elim
  | panic c => exact hq.elim
  | outgrown => exact hq.elim
/-- The end of a round that goes on. -/
theorem roundPost_normal {l : Nat} {fn : FuncId} {tmps : Array Value} {ps : Array Tmp} {assign body : Code} {D : Nat} {W : World} {R : Ending → World → Prop} {a : Act}
    (hl : W.heap[l]? = some (.loop (recL fn tmps ps assign body D .busy none)))
    (h : R (.returned (.bool true)) (W.putObj l (.loop (recL fn tmps ps assign body D .ready none)))) : roundPost P l R .normal a W :=
  ⟨_, _, run_endRound none hl, h⟩
/-- The end of a round that leaves the function. -/
theorem roundPost_ret {l : Nat} {fn : FuncId} {tmps : Array Value} {ps : Array Tmp} {assign body : Code} {D : Nat} {W : World} {R : Ending → World → Prop} {a : Act}
    (hl : W.heap[l]? = some (.loop (recL fn tmps ps assign body D .busy none)))
    (h : R (.returned (.bool false)) (W.putObj l (.loop (recL fn tmps ps assign body D .done (some .ret))))) : roundPost P l R .ret a W :=
  ⟨_, _, run_endRound (some .ret) hl, h⟩
end
end Go.Proofs.YtmconajkgjfplaaGreat
end

/- Rounds of a range over a function, for other texts; a region of a round that draws its order. -/
section
set_option linter.unusedVariables false
set_option linter.unusedSimpArgs false
namespace Go.Proofs.YtmconajkgjfplaaGreat
open Go.RowKit Go.Shelf
attribute [local go_sem] Oper.semAt_some

/-- An append, in a fenced walk. -/
theorem AtApp.goIn {P : Program} {F : Fence} {n : Nat} {w : World} {ops : Array Oper} {rest : List Oper} {o : Oper} {a : Act} {Q : Exit → Act → World → Prop} {s x : Operand} {t tx : TypeId} {v' : Value} {w' : World} {sv xv : Value}
    (hrun : (Builtin.append_ #[t, tx] o.type #[sv, xv]).run P w = .ok v' w') (hgd : o.guard = none) (ho : o.op = .call { callee := .builtin .append, args := #[s, x], argTypes := #[t, tx] }) (hs : a.eval s = sv) (hx : a.eval x = xv)
    (hK : wpListIn F n P ops Q rest (a.put o.dst v') w') : AtApp (wpListIn F n P ops Q (o :: rest) a w) := by
  refine wpListIn_plain hgd fun K hK' => ?_
  unfold Oper.wpIn
  refine ⟨by simp [Oper.about, ho, resolve, Target.leads, Sem.run_pure], ?_⟩
  rw [Oper.semAt_plain F _ _ (by rw [ho]; intro c hc'; cases hc')]
  simp [execOp, ho, resolve, invoke, builtin, hs, hx, hrun, Result.andThen]
  exact hK' _ _ hK
/-- Block l holds o. -/
def HeapAt (w : World) (l : Nat) (o : Obj) : Prop := w.heap[l]? = some o
/-- The statement, its record under a name. -/
theorem wp_rangeFuncR {P : Program} {g : Operand} {ps : Array Tmp} {assign body : Code} {Q : Exit → Act → World → Prop} {a : Act} {w : World} {gf : Nat} {lb : Array Value} (n : Nat)
    (hg : a.eval g = .func (.func gf) #[] lb) (eg : ∀ args w, (callFunc gf args).run P w = .ok (.enter gf args) w)
    (h : ∀ fn (RL : LoopState → Option Code → Loop), RL = recL fn a.tmps ps assign body w.heap.size → CallsIn Fence.wide n P gf (#[.func (.yield (w.heap.size + 1)) #[] #[]] ++ lb)
      ((w.alloc (.deferred (some []))).alloc (.loop (RL .ready none)))
      (fun e W2 => (∃ v, e = .returned v) ∧ ∃ st pe, st ≠ .busy ∧ W2.heap[w.heap.size + 1]? = some (.loop (RL st pe)) ∧
        (match pe with
         | none => Q .normal { a with defers := markD w.heap.size :: a.defers } (W2.putObj (w.heap.size + 1) (.loop (RL .exhausted none)))
         | some c => c.wp P Q { a with defers := markD w.heap.size :: a.defers } (W2.putObj (w.heap.size + 1) (.loop (RL .exhausted (some c))))))) :
    (Code.rangeFunc g ps assign body).wp P Q a w := wp_rangeFunc n hg eg (fun fn => h fn _ rfl)
theorem yieldAt_recR {P : Program} {RL : LoopState → Option Code → Loop} {l : Nat} {fn : FuncId} {tmps : Array Value} {ps : Array Tmp} {assign body : Code} {D : Nat} {W : World} {xs : Array Value} {R : Ending → World → Prop} {n : Nat}
    (hRL : RL = recL fn tmps ps assign body D) (hl : W.heap[l]? = some (.loop (RL .ready none))) (hs : xs.size = ps.size)
    (h : assign.wpIn (Fence.wide.inRound l) n P (Exit.then (fun a₁ w₁ => HeapAt w₁ l (.loop (RL .ready none)) ∧
      body.wpIn (Fence.wide.inRound l) n P (roundPost P l R) a₁ (w₁.putObj l (.loop (RL .busy none)))) (fun _ _ _ => False))
      { tmps := (ps.zip xs).foldl (fun t (p, v) => t.setIfInBounds p v) tmps, defers := [] } W) :
    YieldAt Fence.wide n P l xs W R := by subst hRL; exact yieldAt_rec hl hs (wpIn_mono h (fun e a w h => by cases e <;> first | exact ⟨h.1, h.2⟩ | exact h))
theorem roundPost_normalR {P : Program} {RL : LoopState → Option Code → Loop} {l : Nat} {fn : FuncId} {tmps : Array Value} {ps : Array Tmp} {assign body : Code} {D : Nat} {W : World} {R : Ending → World → Prop} {a : Act}
    (hRL : RL = recL fn tmps ps assign body D) (hl : W.heap[l]? = some (.loop (RL .busy none)))
    (h : R (.returned (.bool true)) (W.putObj l (.loop (RL .ready none)))) : roundPost P l R .normal a W := by subst hRL; exact roundPost_normal hl h

section
variable {P : Program} {ops : Array Oper} {Q : Exit → Act → World → Prop} {S : World → Prop} {l n : Nat}
end
end Go.Proofs.YtmconajkgjfplaaGreat
end

/- The iterator agree: those of sorted rows that begin with some values. (Printed by med.py.) -/
section
set_option linter.unusedVariables false
set_option linter.unusedSimpArgs false
namespace Go.Proofs.YtmconajkgjfplaaGreat
open Go.RowKit Go.Shelf
set_option linter.unusedVariables false
set_option linter.unusedSimpArgs false
attribute [local go_sem] Oper.semAt_some

/-! ### a region of an iterator that draws its order -/
section
variable {P : Program} {ops : Array Oper} {Q : Exit → Act → World → Prop} {n : Nat}
theorem opValIn {o : Oper} {a : Act} {w : World} {K : Act → World → Prop} {v : Value} {w' : World} (h : (execOp a.eval o).run P w = .ok (.value v) w') (hK : K (a.put o.dst v) w') : Oper.wpIn Fence.wide n P o a w K Q := by
  refine ⟨fun _ _ => trivial, ?_⟩
  show Oper.uponIn _ _ _ _ _ _ _ ((Oper.semAt none a.eval o).run P w)
  rw [Oper.semAt_none, h]
  exact hK
theorem opCallIn {o : Oper} {a : Act} {w : World} {K : Act → World → Prop} {f : FuncId} {args : Array Value} (h : (execOp a.eval o).run P w = .ok (.enter f args) w) (hc : Calls P f args w (fun e w' => ∃ v, e = .returned v ∧ K (a.put o.dst v) w')) : Oper.wpIn Fence.wide n P o a w K Q := by
  refine ⟨fun _ _ => trivial, ?_⟩
  show Oper.uponIn _ _ _ _ _ _ _ ((Oper.semAt none a.eval o).run P w)
  rw [Oper.semAt_none, h]
  refine ⟨fun h => (by cases h), callsIn_wide.2 (hc.mono ?_)⟩
  rintro e w' ⟨v, rfl, hk⟩
  exact hk
theorem opYieldIn {o : Oper} {a : Act} {w : World} {K : Act → World → Prop} {l : Nat} {fn : FuncId} {tmps : Array Value} {assign body : Code} {R : Ending → World → Prop} {m : Nat} (hn : n - 1 = m) (h : (execOp a.eval o).run P w = .ok (.round l fn tmps assign body) w) (hr : RoundIn Fence.wide m P l fn tmps assign body w R)
    (hK : ∀ e w', R e w' → ∃ v, e = .returned v ∧ K (a.put o.dst v) w') : Oper.wpIn Fence.wide n P o a w K Q := by
  subst hn
  refine ⟨fun _ _ => trivial, ?_⟩
  show Oper.uponIn _ _ _ _ _ _ _ ((Oper.semAt none a.eval o).run P w)
  rw [Oper.semAt_none, h]
  refine ⟨fun h => (by cases h), hr.mono ?_⟩
  intro e w' he
  obtain ⟨v, rfl, hk⟩ := hK e w' he
  exact hk
theorem allIn {md : Region.Mode} {fuel : Nat} {listed : Array Bool} {a : Act} {w : World} {i : Nat} {o : Oper} {rs : List Nat} (ho : ops[i]? = some o) (hw : Region.wanted o (yielded ops a.tmps) = true)
    (h : ∀ K' : Act → World → Prop, (∀ a w, wpAnyIn Fence.wide n P md ops Q fuel (listed.setIfInBounds i true) a w → K' a w) → Oper.wpIn Fence.wide n P o a w K' Q) (hs : AllReadyIn Fence.wide n P md ops Q fuel listed a w rs) : AllReadyIn Fence.wide n P md ops Q fuel listed a w (i :: rs) :=
  AllReadyIn.cons ho (fun K hK => by rw [if_pos hw]; exact h K hK) hs
end

end Go.Proofs.YtmconajkgjfplaaGreat
end
