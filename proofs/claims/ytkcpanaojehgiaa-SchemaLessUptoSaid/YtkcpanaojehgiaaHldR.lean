/- The document's 'wrong' and 'both'. (Printed by hldr.py.) -/
import Derived.Test.YtkcpanaojehgiaaHldA
import Derived.Test.YtkcpanaojehgiaaSchN
import Derived.Test.YtkcpanaojehgiaaSpnF
namespace Go.Proofs.Ytkcpanaojehgiaa
open Go.RowKit
set_option linter.unusedVariables false
set_option linter.unusedSimpArgs false

def atA (A : List Attr) (id : Int) : Attr := findA A (A.findIdx? (byID id))
def isA (A : List Attr) (id : Int) : Bool := (A.findIdx? (byID id)).isSome
def mistypedB (a : Attr) (x : Ft) : Bool := a.type != x.v.kind || (x.a == 2 && (decide (x.v.n < 1) || decide (7 < x.v.n))) || (x.a == 4 && (decide (x.v.n < 0) || decide (2 < x.v.n)))
def w72 (l : List Ft) (A : List Attr) (x : Ft) : Bool := mistypedB (atA A x.a) x || (decide (x.a ≤ 2) && decide (10 ≤ x.e) && !(madeR l x.e).isSome)
def whole1 (l : List Sp) : Bool := l.length == 1 && (l.getD 0 default).f == -9223372036854775808 && (l.getD 0 default).t == 9223372036854775807
def w75 (x : Ft) : Bool := decide (x.a < 10) && !whole1 x.sp
set_option maxRecDepth 100000 in
set_option maxHeartbeats 4000000 in
theorem wrong71_any (lo hi lo2 hi2 : Nat) (l : List Ft) (v : Value) (A : List Attr) (va : Value) (x : Ft) (sv : Value) (w : World) (hv : Fts lo hi w v l) (hhi : hi ≤ w.heap.size) (hlen : l.length ≤ 2000000000000) (hva : Attrs lo2 hi2 w va A) (hhi2 : hi2 ≤ w.heap.size) (hx : Spans lo hi w sv x.sp) (R : Ending → World → Prop)
    (hR : ∀ w', Below w.heap.size w w' → R (.returned (.bool (!isA A x.a))) w') : Calls Try.prog 53 #[v, va, .agg #[.int .i64 x.e, .int .i64 x.a, .int .i64 x.v.kind, .int .i64 x.v.n, .string ⟨x.v.s.toArray⟩, sv], .int .i64 71] w R := by
  have HR := Lib.hid hR
  have Hv := Lib.hid hv
  have Hva := Lib.hid hva
  have Hx := Lib.hid hx
  obtain ⟨av, cv, rfl, -, -, -, -⟩ := hv.form
  obtain ⟨av2, cv2, rfl, -, -, -, -⟩ := hva.form
  obtain ⟨sp, c, rfl, -, -, -, -⟩ := hx.form
  clear hR hv hva hx
  have hB0 := alloc_below w (.cells #[.int .i64 x.e, .int .i64 x.a, .int .i64 x.v.kind, .int .i64 x.v.n, .string ⟨x.v.s.toArray⟩, .slice sp x.sp.length c] 49)
  have hb0 := Blk.new w [.int .i64 x.e, .int .i64 x.a, .int .i64 x.v.kind, .int .i64 x.v.n, .string ⟨x.v.s.toArray⟩, .slice sp x.sp.length c] 49 rfl
  go_enter Try.func53, Try.ntmps53
  go_upto_region 1 with fail
  generalize w.alloc (.cells #[.int .i64 x.e, .int .i64 x.a, .int .i64 x.v.kind, .int .i64 x.v.n, .string ⟨x.v.s.toArray⟩, .slice sp x.sp.length c] 49) = w0 at *
  have HB0 := Lib.hid hB0
  have Hb0 := Lib.hid hb0
  have hz0 := hB0.size
  obtain ⟨x0, x1, x2, x3, x4, x5⟩ := hb0.cells.f6
  clear hB0 hb0
  go_wp2_with fail
  refine refByID_any lo2 hi2 _ A x.a w0 (Sl.below Hva.out Attrs.loc HB0.out hhi2) (by omega) _ (fun w1 hB1 => ?_)
  rw [show findA A (A.findIdx? (byID x.a)) = atA A x.a from rfl, show (A.findIdx? (byID x.a)).isSome = isA A x.a from rfl]
  have HB1 := Lib.hid (HB0.out.trans (hB1.mono hz0))
  have Hb1 := Lib.hid (Hb0.out.below hB1 Hb0.out.lt)
  have hz1 := HB1.out.size
  clear hB1 x0 x1 x2 x3 x4 x5
  have hr := HR.out
  skip
  generalize isA A x.a = ia at *
  generalize atA A x.a = a at *
  have hal := alloc_below w1 (.cells #[.int .i64 a.id, .string ⟨a.name.toArray⟩, .int .i64 a.type, .bool a.many, .int .i64 a.unique, .bool a.part, .bool a.index] 24)
  have hbk := Blk.new w1 [.int .i64 a.id, .string ⟨a.name.toArray⟩, .int .i64 a.type, .bool a.many, .int .i64 a.unique, .bool a.part, .bool a.index] 24 rfl
  go_upto_region 2 with fail
  generalize w1.alloc (.cells #[.int .i64 a.id, .string ⟨a.name.toArray⟩, .int .i64 a.type, .bool a.many, .int .i64 a.unique, .bool a.part, .bool a.index] 24) = w2 at *
  have HB2 := Lib.hid (HB1.out.trans (hal.mono hz1))
  have hz2 := HB2.out.size
  have Hb2 := Lib.hid (Hb1.out.below hal Hb1.out.lt)
  obtain ⟨y0, y1, y2, y3, y4, y5, y6⟩ := hbk.cells.c7
  obtain ⟨x0, x1, x2, x3, x4, x5⟩ := Hb2.out.cells.f6
  clear hal hbk
  replace hr := hr w2 HB2.out
  go_wp2_with fail
  first | exact hr | exact fin hr rfl
set_option maxRecDepth 100000 in
set_option maxHeartbeats 4000000 in
theorem wrong72_any (lo hi lo2 hi2 : Nat) (l : List Ft) (v : Value) (A : List Attr) (va : Value) (x : Ft) (sv : Value) (w : World) (hv : Fts lo hi w v l) (hhi : hi ≤ w.heap.size) (hlen : l.length ≤ 2000000000000) (hva : Attrs lo2 hi2 w va A) (hhi2 : hi2 ≤ w.heap.size) (hx : Spans lo hi w sv x.sp) (R : Ending → World → Prop)
    (hR : ∀ w', Below w.heap.size w w' → R (.returned (.bool (w72 l A x))) w') : Calls Try.prog 53 #[v, va, .agg #[.int .i64 x.e, .int .i64 x.a, .int .i64 x.v.kind, .int .i64 x.v.n, .string ⟨x.v.s.toArray⟩, sv], .int .i64 72] w R := by
  have HR := Lib.hid hR
  have Hv := Lib.hid hv
  have Hva := Lib.hid hva
  have Hx := Lib.hid hx
  obtain ⟨av, cv, rfl, -, -, -, -⟩ := hv.form
  obtain ⟨av2, cv2, rfl, -, -, -, -⟩ := hva.form
  obtain ⟨sp, c, rfl, -, -, -, -⟩ := hx.form
  clear hR hv hva hx
  have hB0 := alloc_below w (.cells #[.int .i64 x.e, .int .i64 x.a, .int .i64 x.v.kind, .int .i64 x.v.n, .string ⟨x.v.s.toArray⟩, .slice sp x.sp.length c] 49)
  have hb0 := Blk.new w [.int .i64 x.e, .int .i64 x.a, .int .i64 x.v.kind, .int .i64 x.v.n, .string ⟨x.v.s.toArray⟩, .slice sp x.sp.length c] 49 rfl
  go_enter Try.func53, Try.ntmps53
  go_upto_region 1 with fail
  generalize w.alloc (.cells #[.int .i64 x.e, .int .i64 x.a, .int .i64 x.v.kind, .int .i64 x.v.n, .string ⟨x.v.s.toArray⟩, .slice sp x.sp.length c] 49) = w0 at *
  have HB0 := Lib.hid hB0
  have Hb0 := Lib.hid hb0
  have hz0 := hB0.size
  obtain ⟨x0, x1, x2, x3, x4, x5⟩ := hb0.cells.f6
  clear hB0 hb0
  go_wp2_with fail
  refine refByID_any lo2 hi2 _ A x.a w0 (Sl.below Hva.out Attrs.loc HB0.out hhi2) (by omega) _ (fun w1 hB1 => ?_)
  rw [show findA A (A.findIdx? (byID x.a)) = atA A x.a from rfl, show (A.findIdx? (byID x.a)).isSome = isA A x.a from rfl]
  have HB1 := Lib.hid (HB0.out.trans (hB1.mono hz0))
  have Hb1 := Lib.hid (Hb0.out.below hB1 Hb0.out.lt)
  have hz1 := HB1.out.size
  clear hB1 x0 x1 x2 x3 x4 x5
  have hr := HR.out
  unfold w72 mistypedB at hr
  generalize isA A x.a = ia at *
  generalize atA A x.a = a at *
  have hal := alloc_below w1 (.cells #[.int .i64 a.id, .string ⟨a.name.toArray⟩, .int .i64 a.type, .bool a.many, .int .i64 a.unique, .bool a.part, .bool a.index] 24)
  have hbk := Blk.new w1 [.int .i64 a.id, .string ⟨a.name.toArray⟩, .int .i64 a.type, .bool a.many, .int .i64 a.unique, .bool a.part, .bool a.index] 24 rfl
  go_upto_region 2 with fail
  generalize w1.alloc (.cells #[.int .i64 a.id, .string ⟨a.name.toArray⟩, .int .i64 a.type, .bool a.many, .int .i64 a.unique, .bool a.part, .bool a.index] 24) = w2 at *
  have HB2 := Lib.hid (HB1.out.trans (hal.mono hz1))
  have hz2 := HB2.out.size
  have Hb2 := Lib.hid (Hb1.out.below hal Hb1.out.lt)
  obtain ⟨y0, y1, y2, y3, y4, y5, y6⟩ := hbk.cells.c7
  obtain ⟨x0, x1, x2, x3, x4, x5⟩ := Hb2.out.cells.f6
  clear hal hbk
  by_cases h1 : a.type = x.v.kind
  · have g1 : (a.type != x.v.kind) = false := by simp [h1]
    clear h1
    by_cases h2 : x.a = 2
    · have g2 : (x.a == 2) = true := by simp [h2]
      have g5 : (x.a == 4) = false := by simp [h2]
      by_cases h3 : x.v.n < 1
      · have g3 := decide_eq_true h3
        replace hr := hr w2 HB2.out
        simp only [g1, g2, g5, g3, Bool.true_or, Bool.or_true, Bool.false_or, Bool.true_and, Bool.false_and, Bool.or_false] at hr
        go_wp2_with fail
        first | exact hr | exact fin hr rfl
      · have g3 := decide_eq_false h3
        by_cases h4 : 7 < x.v.n
        · have g4 := decide_eq_true h4
          replace hr := hr w2 HB2.out
          simp only [g1, g2, g5, g3, g4, Bool.true_or, Bool.or_true, Bool.false_or, Bool.true_and, Bool.false_and, Bool.or_false] at hr
          go_wp2_with fail
          first | exact hr | exact fin hr rfl
        · have g4 := decide_eq_false h4
          simp only [g1, g2, g5, g3, g4, Bool.true_or, Bool.or_true, Bool.false_or, Bool.true_and, Bool.false_and, Bool.or_false] at hr
          have H2 := Lib.hid h2
          go_wp2_with fail
          refine Made_any lo hi l _ x.e w2 (Sl.below Hv.out ftE_loc HB2.out hhi) (by omega) hlen _ (fun w3 hB3 => ?_)
          have HB3 := Lib.hid (HB2.out.trans (hB3.mono hz2))
          have Hb3 := Lib.hid (Hb2.out.below hB3 Hb2.out.lt)
          have hz3 := HB3.out.size
          clear hB3 x0 x1 x2 x3 x4 x5 y0 y1 y2 y3 y4 y5 y6
          generalize (madeR l x.e).isSome = mm at *
          generalize (madeR l x.e).getD zeroA = b at *
          have hal := alloc_below w3 (.cells #[.int .i64 b.id, .string ⟨b.name.toArray⟩, .int .i64 b.type, .bool b.many, .int .i64 b.unique, .bool b.part, .bool b.index] 24)
          go_upto_region 9 with fail
          generalize w3.alloc (.cells #[.int .i64 b.id, .string ⟨b.name.toArray⟩, .int .i64 b.type, .bool b.many, .int .i64 b.unique, .bool b.part, .bool b.index] 24) = w4 at *
          have HB4 := Lib.hid (HB3.out.trans (hal.mono hz3))
          have Hb4 := Lib.hid (Hb3.out.below hal Hb3.out.lt)
          obtain ⟨x0, x1, x2, x3, x4, x5⟩ := Hb4.out.cells.f6
          replace hr := hr w4 HB4.out
          clear hal
          skip
          by_cases k1 : x.a ≤ 2
          · skip
            by_cases k2 : x.e < 10
            · have k3 : ¬ 10 ≤ x.e := by omega
              rw [decide_eq_true k1, decide_eq_false k3] at hr
              simp only [Bool.true_and, Bool.false_and] at hr
              clear k3
              go_wp2_with fail
              first | exact hr | exact fin hr rfl
            · have k3 : 10 ≤ x.e := by omega
              rw [decide_eq_true k1, decide_eq_true k3] at hr
              simp only [Bool.true_and] at hr
              clear k2
              go_wp2_with fail
              first | exact hr | exact fin hr rfl
          · exact absurd k1 (by have := H2.out; omega)
    · have g2 : (x.a == 2) = false := by simp [h2]
      by_cases h5 : x.a = 4
      · have g5 : (x.a == 4) = true := by simp [h5]
        by_cases h3 : x.v.n < 0
        · have g3 := decide_eq_true h3
          replace hr := hr w2 HB2.out
          simp only [g1, g2, g5, g3, Bool.true_or, Bool.or_true, Bool.false_or, Bool.true_and, Bool.false_and, Bool.or_false] at hr
          go_wp2_with fail
          first | exact hr | exact fin hr rfl
        · have g3 := decide_eq_false h3
          by_cases h4 : 2 < x.v.n
          · have g4 := decide_eq_true h4
            replace hr := hr w2 HB2.out
            simp only [g1, g2, g5, g3, g4, Bool.true_or, Bool.or_true, Bool.false_or, Bool.true_and, Bool.false_and, Bool.or_false] at hr
            go_wp2_with fail
            first | exact hr | exact fin hr rfl
          · have g4 := decide_eq_false h4
            simp only [g1, g2, g5, g3, g4, Bool.true_or, Bool.or_true, Bool.false_or, Bool.true_and, Bool.false_and, Bool.or_false] at hr
            have H2 := Lib.hid h5
            go_wp2_with fail
            refine Made_any lo hi l _ x.e w2 (Sl.below Hv.out ftE_loc HB2.out hhi) (by omega) hlen _ (fun w3 hB3 => ?_)
            have HB3 := Lib.hid (HB2.out.trans (hB3.mono hz2))
            have Hb3 := Lib.hid (Hb2.out.below hB3 Hb2.out.lt)
            have hz3 := HB3.out.size
            clear hB3 x0 x1 x2 x3 x4 x5 y0 y1 y2 y3 y4 y5 y6
            generalize (madeR l x.e).isSome = mm at *
            generalize (madeR l x.e).getD zeroA = b at *
            have hal := alloc_below w3 (.cells #[.int .i64 b.id, .string ⟨b.name.toArray⟩, .int .i64 b.type, .bool b.many, .int .i64 b.unique, .bool b.part, .bool b.index] 24)
            go_upto_region 9 with fail
            generalize w3.alloc (.cells #[.int .i64 b.id, .string ⟨b.name.toArray⟩, .int .i64 b.type, .bool b.many, .int .i64 b.unique, .bool b.part, .bool b.index] 24) = w4 at *
            have HB4 := Lib.hid (HB3.out.trans (hal.mono hz3))
            have Hb4 := Lib.hid (Hb3.out.below hal Hb3.out.lt)
            obtain ⟨x0, x1, x2, x3, x4, x5⟩ := Hb4.out.cells.f6
            replace hr := hr w4 HB4.out
            clear hal
            skip
            by_cases k1 : x.a ≤ 2
            · exact absurd k1 (by have := H2.out; omega)
            · skip
              rw [decide_eq_false k1] at hr
              simp only [Bool.false_and] at hr
              go_wp2_with fail
              first | exact hr | exact fin hr rfl
      · have g5 : (x.a == 4) = false := by simp [h5]
        simp only [g1, g2, g5, Bool.true_or, Bool.or_true, Bool.false_or, Bool.true_and, Bool.false_and, Bool.or_false] at hr

        go_wp2_with fail
        refine Made_any lo hi l _ x.e w2 (Sl.below Hv.out ftE_loc HB2.out hhi) (by omega) hlen _ (fun w3 hB3 => ?_)
        have HB3 := Lib.hid (HB2.out.trans (hB3.mono hz2))
        have Hb3 := Lib.hid (Hb2.out.below hB3 Hb2.out.lt)
        have hz3 := HB3.out.size
        clear hB3 x0 x1 x2 x3 x4 x5 y0 y1 y2 y3 y4 y5 y6
        generalize (madeR l x.e).isSome = mm at *
        generalize (madeR l x.e).getD zeroA = b at *
        have hal := alloc_below w3 (.cells #[.int .i64 b.id, .string ⟨b.name.toArray⟩, .int .i64 b.type, .bool b.many, .int .i64 b.unique, .bool b.part, .bool b.index] 24)
        go_upto_region 9 with fail
        generalize w3.alloc (.cells #[.int .i64 b.id, .string ⟨b.name.toArray⟩, .int .i64 b.type, .bool b.many, .int .i64 b.unique, .bool b.part, .bool b.index] 24) = w4 at *
        have HB4 := Lib.hid (HB3.out.trans (hal.mono hz3))
        have Hb4 := Lib.hid (Hb3.out.below hal Hb3.out.lt)
        obtain ⟨x0, x1, x2, x3, x4, x5⟩ := Hb4.out.cells.f6
        replace hr := hr w4 HB4.out
        clear hal
        skip
        by_cases k1 : x.a ≤ 2
        · skip
          by_cases k2 : x.e < 10
          · have k3 : ¬ 10 ≤ x.e := by omega
            rw [decide_eq_true k1, decide_eq_false k3] at hr
            simp only [Bool.true_and, Bool.false_and] at hr
            clear k3
            go_wp2_with fail
            first | exact hr | exact fin hr rfl
          · have k3 : 10 ≤ x.e := by omega
            rw [decide_eq_true k1, decide_eq_true k3] at hr
            simp only [Bool.true_and] at hr
            clear k2
            go_wp2_with fail
            first | exact hr | exact fin hr rfl
        · skip
          rw [decide_eq_false k1] at hr
          simp only [Bool.false_and] at hr
          go_wp2_with fail
          first | exact hr | exact fin hr rfl
  · have g1 : (a.type != x.v.kind) = true := by simp [h1]
    clear h1
    replace hr := hr w2 HB2.out
    simp only [g1, Bool.true_or, Bool.or_true, Bool.false_or, Bool.true_and, Bool.false_and, Bool.or_false] at hr
    go_wp2_with fail
    first | exact hr | exact fin hr rfl
set_option maxRecDepth 100000 in
set_option maxHeartbeats 4000000 in
theorem wrong75_any (lo hi lo2 hi2 : Nat) (l : List Ft) (v : Value) (A : List Attr) (va : Value) (x : Ft) (sv : Value) (w : World) (hv : Fts lo hi w v l) (hhi : hi ≤ w.heap.size) (hlen : l.length ≤ 2000000000000) (hva : Attrs lo2 hi2 w va A) (hhi2 : hi2 ≤ w.heap.size) (hx : Spans lo hi w sv x.sp) (R : Ending → World → Prop)
    (hR : ∀ w', Below w.heap.size w w' → R (.returned (.bool (w75 x))) w') : Calls Try.prog 53 #[v, va, .agg #[.int .i64 x.e, .int .i64 x.a, .int .i64 x.v.kind, .int .i64 x.v.n, .string ⟨x.v.s.toArray⟩, sv], .int .i64 75] w R := by
  have HR := Lib.hid hR
  have Hv := Lib.hid hv
  have Hva := Lib.hid hva
  have Hx := Lib.hid hx
  obtain ⟨av, cv, rfl, -, -, -, -⟩ := hv.form
  obtain ⟨av2, cv2, rfl, -, -, -, -⟩ := hva.form
  obtain ⟨sp, c, rfl, -, -, -, -⟩ := hx.form
  clear hR hv hva hx
  have hB0 := alloc_below w (.cells #[.int .i64 x.e, .int .i64 x.a, .int .i64 x.v.kind, .int .i64 x.v.n, .string ⟨x.v.s.toArray⟩, .slice sp x.sp.length c] 49)
  have hb0 := Blk.new w [.int .i64 x.e, .int .i64 x.a, .int .i64 x.v.kind, .int .i64 x.v.n, .string ⟨x.v.s.toArray⟩, .slice sp x.sp.length c] 49 rfl
  go_enter Try.func53, Try.ntmps53
  go_upto_region 1 with fail
  generalize w.alloc (.cells #[.int .i64 x.e, .int .i64 x.a, .int .i64 x.v.kind, .int .i64 x.v.n, .string ⟨x.v.s.toArray⟩, .slice sp x.sp.length c] 49) = w0 at *
  have HB0 := Lib.hid hB0
  have Hb0 := Lib.hid hb0
  have hz0 := hB0.size
  obtain ⟨x0, x1, x2, x3, x4, x5⟩ := hb0.cells.f6
  clear hB0 hb0
  go_wp2_with fail
  refine refByID_any lo2 hi2 _ A x.a w0 (Sl.below Hva.out Attrs.loc HB0.out hhi2) (by omega) _ (fun w1 hB1 => ?_)
  rw [show findA A (A.findIdx? (byID x.a)) = atA A x.a from rfl, show (A.findIdx? (byID x.a)).isSome = isA A x.a from rfl]
  have HB1 := Lib.hid (HB0.out.trans (hB1.mono hz0))
  have Hb1 := Lib.hid (Hb0.out.below hB1 Hb0.out.lt)
  have hz1 := HB1.out.size
  clear hB1 x0 x1 x2 x3 x4 x5
  have hr := HR.out
  unfold w75 at hr
  generalize isA A x.a = ia at *
  generalize atA A x.a = a at *
  have hal := alloc_below w1 (.cells #[.int .i64 a.id, .string ⟨a.name.toArray⟩, .int .i64 a.type, .bool a.many, .int .i64 a.unique, .bool a.part, .bool a.index] 24)
  have hbk := Blk.new w1 [.int .i64 a.id, .string ⟨a.name.toArray⟩, .int .i64 a.type, .bool a.many, .int .i64 a.unique, .bool a.part, .bool a.index] 24 rfl
  go_upto_region 2 with fail
  generalize w1.alloc (.cells #[.int .i64 a.id, .string ⟨a.name.toArray⟩, .int .i64 a.type, .bool a.many, .int .i64 a.unique, .bool a.part, .bool a.index] 24) = w2 at *
  have HB2 := Lib.hid (HB1.out.trans (hal.mono hz1))
  have hz2 := HB2.out.size
  have Hb2 := Lib.hid (Hb1.out.below hal Hb1.out.lt)
  obtain ⟨y0, y1, y2, y3, y4, y5, y6⟩ := hbk.cells.c7
  obtain ⟨x0, x1, x2, x3, x4, x5⟩ := Hb2.out.cells.f6
  clear hal hbk
  replace hr := hr w2 HB2.out
  by_cases h1 : x.a < 10
  · rw [decide_eq_true h1, Bool.true_and] at hr
    obtain ⟨sp', c', e', -, -, -, hc⟩ := (Sl.below Hx.out Sp.loc HB2.out hhi).form
    injection e' with e1 e2 e3
    subst e1 e3
    obtain ⟨L, hL⟩ : ∃ L, L = x.sp := ⟨_, rfl⟩
    rw [← hL] at hc hr x5 ⊢
    clear hL
    by_cases h2 : L.length = 1
    · obtain ⟨s, rfl⟩ : ∃ s, L = [s] := List.length_eq_one_iff.1 h2
      obtain ⟨b, off, rfl, hb1, hb2, hcc⟩ := hc 0 (by simp)
      obtain ⟨cs, _, hcs, rfl⟩ := hcc 0 (by simp)
      obtain ⟨k0, k1⟩ := hcs.c2
      rw [Nat.zero_mul, Nat.add_zero] at k0 k1
      simp only [List.getElem_cons_zero] at k0 k1
      simp only [List.length_cons, List.length_nil, Nat.zero_add] at x5 ⊢
      simp only [whole1, List.length_cons, List.length_nil, Nat.zero_add, beq_self_eq_true, Bool.true_and, List.getD_cons_zero] at hr
      clear hcs hc hcc h2
      by_cases h3 : s.f = -9223372036854775808
      · have g3 : (s.f == -9223372036854775808) = true := by simp [h3]
        by_cases h4 : s.t = 9223372036854775807
        · have g4 : (s.t == 9223372036854775807) = true := by simp [h4]
          rw [g3, g4] at hr
          go_wp2_with fail
          first | exact hr | exact fin hr rfl
        · have g4 : (s.t == 9223372036854775807) = false := by simp [h4]
          rw [g3, g4] at hr
          go_wp2_with fail
          first | exact hr | exact fin hr rfl | exact fin hr (by simp [h4])
      · have g3 : (s.f == -9223372036854775808) = false := by simp [h3]
        rw [g3] at hr
        go_wp2_with fail
        first | exact hr | exact fin hr rfl
    · have g2 : (L.length == 1) = false := by simp [h2]
      have g3 : ((L.length : Int) != 1) = true := by simp; omega
      unfold whole1 at hr
      rw [g2] at hr
      simp only [Bool.false_and] at hr
      clear hc h2 g2
      generalize L.length = n at *
      go_wp2_with fail
      first | exact hr | exact fin hr rfl
  · rw [decide_eq_false h1] at hr
    simp only [Bool.false_and] at hr
    go_wp2_with fail
    first | exact hr | exact fin hr rfl
set_option maxRecDepth 100000 in
set_option maxHeartbeats 4000000 in
theorem refBoth_any (lo hi : Nat) (x y : Ft) (vx vy : Value) (w : World) (hx : Spans lo hi w vx x.sp) (hy : Spans lo hi w vy y.sp) (hhi : hi ≤ w.heap.size) (hlx : x.sp.length ≤ 1000000000) (hly : y.sp.length ≤ 1000000000) (R : Ending → World → Prop)
    (hR : ∀ w', Below w.heap.size w w' → R (.returned (.bool (!(bothL x.sp y.sp).isEmpty))) w') : Calls Try.prog 54 #[.agg #[.int .i64 x.e, .int .i64 x.a, .int .i64 x.v.kind, .int .i64 x.v.n, .string ⟨x.v.s.toArray⟩, vx], .agg #[.int .i64 y.e, .int .i64 y.a, .int .i64 y.v.kind, .int .i64 y.v.n, .string ⟨y.v.s.toArray⟩, vy]] w R := by
  have HR := Lib.hid hR
  have Hx := Lib.hid hx
  have Hy := Lib.hid hy
  obtain ⟨ax, cx, rfl, -, -, -, -⟩ := hx.form
  obtain ⟨ay, cy, rfl, -, -, -, -⟩ := hy.form
  clear hR hx hy
  have hB1 := alloc_below w (.cells #[.int .i64 x.e, .int .i64 x.a, .int .i64 x.v.kind, .int .i64 x.v.n, .string ⟨x.v.s.toArray⟩, .slice ax x.sp.length cx] 49)
  have hbx := Blk.new w [.int .i64 x.e, .int .i64 x.a, .int .i64 x.v.kind, .int .i64 x.v.n, .string ⟨x.v.s.toArray⟩, .slice ax x.sp.length cx] 49 rfl
  have hs1 : (w.alloc (.cells #[.int .i64 x.e, .int .i64 x.a, .int .i64 x.v.kind, .int .i64 x.v.n, .string ⟨x.v.s.toArray⟩, .slice ax x.sp.length cx] 49)).heap.size = w.heap.size + 1 := by simp
  have hB2 := alloc_below (w.alloc (.cells #[.int .i64 x.e, .int .i64 x.a, .int .i64 x.v.kind, .int .i64 x.v.n, .string ⟨x.v.s.toArray⟩, .slice ax x.sp.length cx] 49)) (.cells #[.int .i64 y.e, .int .i64 y.a, .int .i64 y.v.kind, .int .i64 y.v.n, .string ⟨y.v.s.toArray⟩, .slice ay y.sp.length cy] 49)
  have hby := Blk.new (w.alloc (.cells #[.int .i64 x.e, .int .i64 x.a, .int .i64 x.v.kind, .int .i64 x.v.n, .string ⟨x.v.s.toArray⟩, .slice ax x.sp.length cx] 49)) [.int .i64 y.e, .int .i64 y.a, .int .i64 y.v.kind, .int .i64 y.v.n, .string ⟨y.v.s.toArray⟩, .slice ay y.sp.length cy] 49 hs1.symm
  have hB := hB1.trans (hB2.mono hB1.size)
  go_enter Try.func54, Try.ntmps54
  go_upto_region 1 with fail
  have hbx2 := hbx.below hB2 hbx.lt
  generalize (w.alloc (.cells #[.int .i64 x.e, .int .i64 x.a, .int .i64 x.v.kind, .int .i64 x.v.n, .string ⟨x.v.s.toArray⟩, .slice ax x.sp.length cx] 49)).alloc (.cells #[.int .i64 y.e, .int .i64 y.a, .int .i64 y.v.kind, .int .i64 y.v.n, .string ⟨y.v.s.toArray⟩, .slice ay y.sp.length cy] 49) = w2 at *
  obtain ⟨x0, x1, x2, x3, x4, x5⟩ := hbx2.cells.f6
  obtain ⟨y0, y1, y2, y3, y4, y5⟩ := hby.cells.f6
  have HB := Lib.hid hB
  have hz := hB.size
  clear hB1 hB2 hbx hby hbx2 hs1 hB
  go_wp2_with fail
  refine both_any lo hi x.sp y.sp _ _ w2 (Sl.below Hx.out Sp.loc HB.out hhi) (Sl.below Hy.out Sp.loc HB.out hhi) (by omega) hlx hly _ (fun w3 v3 hB3 ho3 => ?_)
  have hr := HR.out w3 (HB.out.trans (hB3.mono hz))
  obtain ⟨p3, c3, rfl⟩ := Own.slice ho3
  generalize bothL x.sp y.sp = B at *
  clear hB3 ho3 x0 x1 x2 x3 x4 x5 y0 y1 y2 y3 y4 y5
  cases B with
  | nil =>
    go_wp2_with fail
    first | exact hr | exact fin hr rfl
  | cons b r =>
    have g : (0 : Int) < ((b :: r).length : Int) := by rw [List.length_cons]; omega
    have gn : 0 < (b :: r).length := by rw [List.length_cons]; omega
    generalize (b :: r).length = n at *
    simp only [List.isEmpty_cons, Bool.not_false] at hr
    go_wp2_with fail
    first | exact hr | exact fin hr rfl | exact fin hr (by simp [gn])
end Go.Proofs.Ytkcpanaojehgiaa
