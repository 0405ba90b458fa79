/- fold.Total and the document's: the sum of numbers, or that there is none. -/
import Derived.Test.YtgbidlbaebnamaaProg
import Derived.Test.YtgbidlbaebnamaaTotalP
import Derived.StillTailTactics
import Derived.RegionTactic
import Derived.ChangeAlike
namespace Go.Proofs.Ytgbidlbaebnamaa
open Go.RowKit

theorem run_Add64 (x y c : Int) (hx : 0 ≤ x) (hy : 0 ≤ y) (hc0 : 0 ≤ c) (hc : c ≤ 1) (w : World) :
    (callFunc 94 #[.int .u64 x, .int .u64 y, .int .u64 c]).run Try.prog w = .ok (.value (.tuple #[.int .u64 (addLo x y c), .int .u64 (addHi x y c)])) w := by
  rw [run_callFunc_extern Try.func94 (by kernel_rfl) (by kernel_rfl) (by kernel_rfl) (e := add64Entry) (by kernel_rfl), run_add64 x y c hx hy hc0 hc]
  rfl

set_option maxRecDepth 100000 in
set_option maxHeartbeats 1000000 in
theorem wide_add (B : Nat) (lo hi n : Int) (w : World) (h0 : w.cell? ⟨B, 0, none⟩ = some (.int .u64 lo)) (h1 : w.cell? ⟨B, 1, none⟩ = some (.int .u64 hi)) (f0 : w.frozen? ⟨B, 0, none⟩ = false) (f1 : w.frozen? ⟨B, 1, none⟩ = false)
    (l0 : 0 ≤ lo) (l1 : lo < W64) (u0 : 0 ≤ hi) (u1 : hi < W64) (R : Ending → World → Prop)
    (hR : R (.returned (.tuple #[])) ((w.setCell ⟨B, 0, none⟩ (.int .u64 (addLo lo (up n) 0))).setCell ⟨B, 1, none⟩ (.int .u64 (addLo hi (sg n) (addHi lo (up n) 0)))).drew) :
    Calls Try.prog 57 #[.pointer (some ⟨B, 0, none⟩), .int .i64 n] w R := by
  have hb := addHi_bd l0 l1 (up_bd n).1 (up_bd n).2 (Int.le_refl 0) (by decide)
  have hA : ∀ w, (callFunc 94 #[.int .u64 lo, .int .u64 (IntKind.u64.wrap n), .int .u64 0]).run Try.prog w = .ok (.value (.tuple #[.int .u64 (addLo lo (up n) 0), .int .u64 (addHi lo (up n) 0)])) w :=
    fun w => run_Add64 _ _ _ l0 (up_bd n).1 (Int.le_refl 0) (by decide) w
  have hA2 : ∀ w, (callFunc 94 #[.int .u64 hi, .int .u64 (IntKind.u64.wrap (n / 9223372036854775808)), .int .u64 (addHi lo (up n) 0)]).run Try.prog w =
      .ok (.value (.tuple #[.int .u64 (addLo hi (sg n) (addHi lo (up n) 0)), .int .u64 (addHi hi (sg n) (addHi lo (up n) 0))])) w :=
    fun w => run_Add64 _ _ _ u0 (sg_bd n).1 hb.1 hb.2 w
  generalize addLo lo (up n) 0 = a0 at *
  generalize addHi lo (up n) 0 = a1 at *
  generalize addLo hi (sg n) a1 = a2 at *
  clear hb
  go_enter Try.func57, Try.ntmps57
  go_wp2_with fail
  go_region
  go_end0
  exact hR

set_option maxRecDepth 100000 in
set_option maxHeartbeats 1000000 in
theorem wide_number (lo hi : Int) (w : World) (R : Ending → World → Prop)
    (hR : ∀ w', Below w.heap.size w w' → R (.returned (.tuple #[.int .i64 (wrap64 lo), .bool (hi == sg (wrap64 lo))])) w') :
    Calls Try.prog 58 #[.agg #[.int .u64 lo, .int .u64 hi]] w R := by
  go_enter Try.func58, Try.ntmps58
  go_wp2_with fail
  go_quiet (fail)
  go_wp2_with fail
  exact drewN ((Below.refl _ _).alloc (Nat.le_refl _) _) _

/-- What both answer: a number, or none (160). -/
def totalV (o : Option Int) : Value := .tuple #[.agg #[.int .i64 (if o.isSome then 1 else 0), .int .i64 (o.getD 0), .string ⟨([] : List UInt8).toArray⟩], .int .i64 (if o.isSome then 0 else 160)]

set_option maxRecDepth 100000 in
set_option maxHeartbeats 1000000 in
theorem Total_any (lo hi : Nat) (v : Value) (l : List V) (w : World) (hv : Sl (flat V.enc) 3 lo hi w v l) (hhi : hi ≤ w.heap.size) (hok : ∀ x ∈ l, x.ok) (hlen : l.length ≤ 1000) (R : Ending → World → Prop)
    (hR : ∀ w', Below w.heap.size w w' → R (.returned (totalV (total l))) w') : Calls Try.prog 14 #[v] w R := by
  obtain ⟨ao, cap, rfl, hl1, hl2, _, hc⟩ := hv.form
  have Hc := Lib.hid hc
  clear hc
  have he : ∀ args w, (callFunc 57 args).run Try.prog w = .ok (.enter 57 args) w := enters_of Try.func57 (by kernel_rfl) rfl
  go_enter Try.func14, Try.ntmps14
  go_wp2_with fail
  go_loopw [7, 13] (fun _ t13 wr => ∃ (k : Nat) (a b : Int), k ≤ l.length ∧ t13 = .int .i64 k ∧ (l.take k).all (fun v => v.kind == 1) = true ∧ Says a b (((l.take k).map V.n).sum) ∧
      Below w.heap.size w wr ∧ Blk wr w.heap.size [.int .i64 0, .int .i64 0, .string ⟨#[]⟩] 24 ∧ Blk wr (w.heap.size + 1) [.int .u64 a, .int .u64 b] 80) (fun _ t13 _ => l.length - (intOf t13).toNat)
  case atStart =>
    exact ⟨0, 0, 0, Nat.zero_le _, rfl, rfl, says_zero, ((Below.refl _ _).alloc (Nat.le_refl _) _).alloc (by simp) _, (Blk.new _ _ _ rfl).alloc _, Blk.new _ _ _ (by simp)⟩
  case round =>
    obtain ⟨k, a, b, hk, rfl, hall, hs, hB, hz, hw⟩ := hrel
    have Hall := Lib.hid hall
    clear hall
    obtain ⟨z0, z1, z2⟩ := hz.cells.c3
    obtain ⟨cw0, cw1⟩ := hw.cells.c2
    have fz0 := hz.free 0
    have fz1 := hz.free 1
    have fz2 := hz.free 2
    have fw0 := hw.free 0
    have fw1 := hw.free 1
    simp only [Nat.zero_add] at z0 z1 z2 cw0 cw1
    have hzl := hz.lt
    have hwl := hw.lt
    by_cases hlt : k < l.length
    · obtain ⟨b0, off, rfl, hb1, hb2, hcc⟩ := Hc.out k hlt
      obtain ⟨cs, _, hcs, rfl⟩ := hcc k hlt
      obtain ⟨h0, h1, h2⟩ := (hcs.agree (.below hB hhi) hb1 hb2).c3
      have hxo := hok _ (List.getElem_mem hlt)
      have hall2 := Lib.hid (all_take_succ l (fun v => v.kind == 1) k hlt)
      have hsum := Lib.hid (List.take_succ_eq_append_getElem hlt)
      clear hcc hcs
      generalize hx : l[k] = x at *
      have Hx := Lib.hid hx
      clear hx
      by_cases hkind : x.kind = 1
      · have hb : x.kind ≠ 1 ∨ True := .inr trivial
        clear hb
        have Hk := Lib.hid hkind
        have hne : (x.kind != 1) = false := by simp [hkind]
        clear hkind
        go_wp2_with fail
        obtain ⟨sa0, sa1, sb0, sb1, -⟩ := id hs
        have hB1 : Below w.heap.size w (wr.alloc (Obj.cells #[.int .i64 x.kind, .int .i64 x.n, .string ⟨x.s.toArray⟩] 24)) := hB.alloc hB.size _
        have hz1 := hz.alloc (Obj.cells #[.int .i64 x.kind, .int .i64 x.n, .string ⟨x.s.toArray⟩] 24)
        have hw1 := hw.alloc (Obj.cells #[.int .i64 x.kind, .int .i64 x.n, .string ⟨x.s.toArray⟩] 24)
        generalize hwr : wr.alloc (Obj.cells #[.int .i64 x.kind, .int .i64 x.n, .string ⟨x.s.toArray⟩] 24) = wx at *
        clear hwr
        have q0 := (hw1.cells.c2).1
        have q1 := (hw1.cells.c2).2
        rw [Nat.zero_add] at q1
        refine wide_add (w.heap.size + 1) a b x.n wx q0 q1 (hw1.free 0) (hw1.free 1) sa0 sa1 sb0 sb1 _ ?_
        have hB2 := ((hB1.setCell (p := ⟨w.heap.size + 1, 0, none⟩) (Nat.le_succ _) (.int .u64 (addLo a (up x.n) 0))).setCell (p := ⟨w.heap.size + 1, 1, none⟩) (Nat.le_succ _) (.int .u64 (addLo b (sg x.n) (addHi a (up x.n) 0)))).drew
        have hz2 := ((hz1.other (p := ⟨w.heap.size + 1, 0, none⟩) (by simp) (.int .u64 (addLo a (up x.n) 0))).other (p := ⟨w.heap.size + 1, 1, none⟩) (by simp) (.int .u64 (addLo b (sg x.n) (addHi a (up x.n) 0)))).drew
        have hw2 := ((hw1.set 0 (.int .u64 (addLo a (up x.n) 0))).set 1 (.int .u64 (addLo b (sg x.n) (addHi a (up x.n) 0)))).drew
        have hs2 := says_add hs hxo.1.1 hxo.1.2
        generalize ((wx.setCell ⟨w.heap.size + 1, 0, none⟩ (.int .u64 (addLo a (up x.n) 0))).setCell ⟨w.heap.size + 1, 1, none⟩ (.int .u64 (addLo b (sg x.n) (addHi a (up x.n) 0)))).drew = wy at *
        clear hz hw hz1 hw1 hB1 q0 q1 z0 z1 z2 cw0 cw1 fz0 fz1 fz2 fw0 fw1 h0 h1 h2
        go_wp2_with fail
        go_roundw
        case rel => exact ⟨k + 1, _, _, by omega, by go_num, by rw [hall2.out, Hall.out]; simp [Hk.out], by rw [hsum.out, List.map_append, List.sum_append]; simpa using hs2, hB2, hz2, hw2⟩
        case measure => simp [intOf]; omega
      · have hne : (x.kind != 1) = true := by simp [hkind]
        have Hk := Lib.hid hkind
        clear hkind
        have Ht : Hid (total l = none) := by
          have : l.all (fun v => v.kind == 1) = false := by
            rw [List.all_eq_false]
            exact ⟨x, Hx.out ▸ List.getElem_mem hlt, by simpa using Hk.out⟩
          simp [Hid, total, this]
        go_wp2_with fail
        rw [Ht.out] at hR
        exact ret_cell_tmp rfl rfl (((((hz.set 0 (.int .i64 0)).set 1 (.int .i64 0)).set 2 (.string ⟨#[]⟩)).alloc _).cells.runVar (fun _ => by kernel_rfl) (fun _ => by kernel_rfl)) rfl rfl
          (hR _ ((((hB.setCell (p := ⟨w.heap.size, 0, none⟩) (Nat.le_refl _) _).setCell (p := ⟨w.heap.size, 1, none⟩) (Nat.le_refl _) _).setCell (p := ⟨w.heap.size, 2, none⟩) (Nat.le_refl _) _).alloc (by simp; omega) _))
    · have e : k = l.length := by omega
      subst e
      rw [List.take_length] at hs
      have Ha : Hid (l.all (fun v => v.kind == 1) = true) := by have := Hall.out; rwa [List.take_length] at this
      have hbd := sum_bd l hok
      obtain ⟨hn1, hn2⟩ := says_number hs (by omega) (by omega)
      have Hn1 := Lib.hid hn1
      have Hn2 := Lib.hid hn2
      clear hn1 hn2 hbd
      go_wp2_with fail
      refine wide_number a b _ _ fun w1 hB1 => ?_
      have hB2 := hB.trans (hB1.mono hB.size)
      have hz2 := hz.below hB1 hzl
      obtain ⟨y0, y1, y2⟩ := hz2.cells.c3
      have gz0 := hz2.free 0
      have gz1 := hz2.free 1
      have gz2 := hz2.free 2
      simp only [Nat.zero_add] at y0 y1 y2
      clear z0 z1 z2 fz0 fz1 fz2 cw0 cw1 fw0 fw1
      by_cases hin : inI64 ((l.map V.n).sum)
      · have Ht : Hid (total l = some (wrap64 a)) := by rw [Hid, total, if_pos Ha.out, if_pos hin, Hn2.out hin]
        have e : (b == sg (wrap64 a)) = true := by simpa using Hn1.out.2 hin
        rw [e]
        clear e
        rw [Ht.out] at hR
        clear hin
        generalize wrap64 a = n at *
        go_wp2_with fail
        exact ret_cell_tmp rfl rfl ((((hz2.set 0 (.int .i64 1)).set 1 (.int .i64 n)).set 2 (.string ⟨#[]⟩)).cells.runVar (fun _ => by kernel_rfl) (fun _ => by kernel_rfl)) rfl rfl
          (hR _ (((hB2.setCell (p := ⟨w.heap.size, 0, none⟩) (Nat.le_refl _) _).setCell (p := ⟨w.heap.size, 1, none⟩) (Nat.le_refl _) _).setCell (p := ⟨w.heap.size, 2, none⟩) (Nat.le_refl _) _))
      · have Ht : Hid (total l = none) := by rw [Hid, total, if_pos Ha.out, if_neg hin]
        have e : (b == sg (wrap64 a)) = false := by
          have := fun h => hin (Hn1.out.1 h)
          simpa using this
        rw [e]
        clear e
        rw [Ht.out] at hR
        clear hin
        generalize wrap64 a = n at *
        go_wp2_with fail
        exact ret_cell_tmp rfl rfl ((((hz2.set 0 (.int .i64 0)).set 1 (.int .i64 0)).set 2 (.string ⟨#[]⟩)).cells.runVar (fun _ => by kernel_rfl) (fun _ => by kernel_rfl)) rfl rfl
          (hR _ (((hB2.setCell (p := ⟨w.heap.size, 0, none⟩) (Nat.le_refl _) _).setCell (p := ⟨w.heap.size, 1, none⟩) (Nat.le_refl _) _).setCell (p := ⟨w.heap.size, 2, none⟩) (Nat.le_refl _) _))
end Go.Proofs.Ytgbidlbaebnamaa
