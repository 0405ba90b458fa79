/- What Holds asks of facts, one by one. -/
import Derived.Test.YtkcpanaojehgiaaSchM
import Derived.Test.YtkcpanaojehgiaaSpnD
namespace Go.Proofs.Ytkcpanaojehgiaa
open Go.RowKit
set_option linter.unusedVariables false
set_option linter.unusedSimpArgs false

/-- May an attribute have a fact's value? -/
def typedB (a : Attr) (x : Ft) : Bool := !(x.v.kind != a.type) && !(a.id == 2 && (decide (x.v.n < 1) || decide (7 < x.v.n))) && !(a.id == 4 && (decide (x.v.n < 0) || decide (2 < x.v.n)))
def unknownB (a : Attr) (x : Ft) : Bool := a.id != x.a || a.type == 0
def wholeB (l : List Sp) : Bool := (sharedL [⟨-9223372036854775808, 9223372036854775807⟩] (restL (-9223372036854775808) l)).isEmpty
def lateB (a : Attr) (x : Ft) : Bool := decide (a.id < 10) && !wholeB x.sp
def partB (a : Attr) : Bool := a.part && a.type != 5
set_option maxRecDepth 100000 in
set_option maxHeartbeats 2000000 in
theorem Holds2_any (a : Attr) (x : Ft) (sp : Option Addr) (n c : Nat) (w : World) (R : Ending → World → Prop) (hR : ∀ w', Below w.heap.size w w' → R (.returned (.bool (unknownB a x))) w') :
    Calls Try.prog 43 #[.agg #[.int .i64 a.id, .string ⟨a.name.toArray⟩, .int .i64 a.type, .bool a.many, .int .i64 a.unique, .bool a.part, .bool a.index], .agg #[.int .i64 x.e, .int .i64 x.a, .int .i64 x.v.kind, .int .i64 x.v.n, .string ⟨x.v.s.toArray⟩, .slice sp n c]] w R := by
  have hB1 := alloc_below w (.cells #[.int .i64 a.id, .string ⟨a.name.toArray⟩, .int .i64 a.type, .bool a.many, .int .i64 a.unique, .bool a.part, .bool a.index] 24)
  have hB2 := alloc_below (w.alloc (.cells #[.int .i64 a.id, .string ⟨a.name.toArray⟩, .int .i64 a.type, .bool a.many, .int .i64 a.unique, .bool a.part, .bool a.index] 24)) (.cells #[.int .i64 x.e, .int .i64 x.a, .int .i64 x.v.kind, .int .i64 x.v.n, .string ⟨x.v.s.toArray⟩, .slice sp n c] 49)
  have hr := hR _ (hB1.trans (hB2.mono hB1.size))
  unfold unknownB at hr
  clear hR hB1 hB2
  by_cases h1 : a.id = x.a
  · have g1 : (a.id != x.a) = false := by simp [h1]
    by_cases h2 : a.type = 0
    · have g2 : (a.type == 0) = true := by simp [h2]
      rw [g1, g2] at hr
      clear h1 h2
      go_enter Try.func43, Try.ntmps43
      go_wp2_with fail
      first | exact hr | exact fin hr rfl
    · have g2 : (a.type == 0) = false := by simp [h2]
      rw [g1, g2] at hr
      clear h1 h2
      go_enter Try.func43, Try.ntmps43
      go_wp2_with fail
      first | exact hr | exact fin hr rfl
  · have g1 : (a.id != x.a) = true := by simp [h1]
    rw [g1] at hr
    clear h1
    go_enter Try.func43, Try.ntmps43
    go_wp2_with fail
    first | exact hr | exact fin hr rfl
set_option maxRecDepth 100000 in
set_option maxHeartbeats 2000000 in
theorem typed_any (a : Attr) (x : Ft) (sp : Option Addr) (n c : Nat) (w : World) (R : Ending → World → Prop) (hR : ∀ w', Below w.heap.size w w' → R (.returned (.bool (typedB a x))) w') :
    Calls Try.prog 45 #[.agg #[.int .i64 a.id, .string ⟨a.name.toArray⟩, .int .i64 a.type, .bool a.many, .int .i64 a.unique, .bool a.part, .bool a.index], .agg #[.int .i64 x.e, .int .i64 x.a, .int .i64 x.v.kind, .int .i64 x.v.n, .string ⟨x.v.s.toArray⟩, .slice sp n c]] w R := by
  have hB1 := alloc_below w (.cells #[.int .i64 a.id, .string ⟨a.name.toArray⟩, .int .i64 a.type, .bool a.many, .int .i64 a.unique, .bool a.part, .bool a.index] 24)
  have hB2 := alloc_below (w.alloc (.cells #[.int .i64 a.id, .string ⟨a.name.toArray⟩, .int .i64 a.type, .bool a.many, .int .i64 a.unique, .bool a.part, .bool a.index] 24)) (.cells #[.int .i64 x.e, .int .i64 x.a, .int .i64 x.v.kind, .int .i64 x.v.n, .string ⟨x.v.s.toArray⟩, .slice sp n c] 49)
  have hr := hR _ (hB1.trans (hB2.mono hB1.size))
  clear hR hB1 hB2
  obtain ⟨aid, aname, atype, amany, aunique, apart, aindex⟩ := a
  obtain ⟨xe, xa, ⟨k, m, s⟩, l⟩ := x
  unfold typedB at hr
  simp only at hr ⊢
  by_cases h1 : k = atype
  · have g1 : (k != atype) = false := by simp [h1]
    by_cases h2 : aid = 2
    · obtain rfl := h2
      have e4 : ((2 : Int) == 4) = false := by decide
      have e2 : ((2 : Int) == 2) = true := by decide
      by_cases h3 : m < 1
      · rw [g1, decide_eq_true h3, e2] at hr
        simp only [Bool.not_false, Bool.true_and, Bool.true_or, Bool.not_true, Bool.false_and] at hr
        clear h1
        go_enter Try.func45, Try.ntmps45
        go_wp2_with fail
        first | exact hr | exact fin hr rfl
      · by_cases h4 : 7 < m
        · rw [g1, decide_eq_true h4, e2] at hr
          simp only [Bool.not_false, Bool.true_and, Bool.or_true, Bool.not_true, Bool.false_and] at hr
          clear h1
          go_enter Try.func45, Try.ntmps45
          go_wp2_with fail
          first | exact hr | exact fin hr rfl
        · rw [g1, decide_eq_false h4, decide_eq_false h3, e2, e4] at hr
          simp only [Bool.not_false, Bool.true_and, Bool.or_false, Bool.false_and] at hr
          clear h1
          go_enter Try.func45, Try.ntmps45
          go_wp2_with fail
          first | exact hr | exact fin hr rfl
    · have e2 : (aid == 2) = false := by simp [h2]
      by_cases h5 : aid = 4
      · obtain rfl := h5
        have e4 : ((4 : Int) == 4) = true := by decide
        by_cases h3 : m < 0
        · rw [g1, decide_eq_true h3, e2, e4] at hr
          simp only [Bool.not_false, Bool.true_and, Bool.true_or, Bool.not_true, Bool.false_and] at hr
          clear h1 h2 e2
          go_enter Try.func45, Try.ntmps45
          go_wp2_with fail
          first | exact hr | exact fin hr rfl
        · by_cases h4 : 2 < m
          · rw [g1, decide_eq_true h4, e2, e4] at hr
            simp only [Bool.not_false, Bool.true_and, Bool.or_true, Bool.not_true, Bool.false_and] at hr
            clear h1 h2 e2
            go_enter Try.func45, Try.ntmps45
            go_wp2_with fail
            first | exact hr | exact fin hr rfl
          · rw [g1, decide_eq_false h4, decide_eq_false h3, e2, e4] at hr
            simp only [Bool.not_false, Bool.true_and, Bool.or_false, Bool.false_and] at hr
            clear h1 h2 e2
            go_enter Try.func45, Try.ntmps45
            go_wp2_with fail
            first | exact hr | exact fin hr rfl
      · have e4 : (aid == 4) = false := by simp [h5]
        rw [g1, e2, e4] at hr
        simp only [Bool.not_false, Bool.true_and, Bool.false_and] at hr
        clear h1 h2 h5
        go_enter Try.func45, Try.ntmps45
        go_wp2_with fail
        first | exact hr | exact fin hr rfl
  · have g1 : (k != atype) = true := by simp [h1]
    rw [g1] at hr
    simp only [Bool.not_true, Bool.false_and] at hr
    clear h1
    go_enter Try.func45, Try.ntmps45
    go_wp2_with fail
    first | exact hr | exact fin hr rfl
set_option maxRecDepth 100000 in
set_option maxHeartbeats 2000000 in
theorem Holds3_any (a : Attr) (x : Ft) (sp : Option Addr) (n c : Nat) (w : World) (R : Ending → World → Prop) (hR : ∀ w', Below w.heap.size w w' → R (.returned (.bool (!typedB a x))) w') :
    Calls Try.prog 44 #[.agg #[.int .i64 a.id, .string ⟨a.name.toArray⟩, .int .i64 a.type, .bool a.many, .int .i64 a.unique, .bool a.part, .bool a.index], .agg #[.int .i64 x.e, .int .i64 x.a, .int .i64 x.v.kind, .int .i64 x.v.n, .string ⟨x.v.s.toArray⟩, .slice sp n c]] w R := by
  have HR := Lib.hid hR
  have hB1 := alloc_below w (.cells #[.int .i64 a.id, .string ⟨a.name.toArray⟩, .int .i64 a.type, .bool a.many, .int .i64 a.unique, .bool a.part, .bool a.index] 24)
  have hB2 := alloc_below (w.alloc (.cells #[.int .i64 a.id, .string ⟨a.name.toArray⟩, .int .i64 a.type, .bool a.many, .int .i64 a.unique, .bool a.part, .bool a.index] 24)) (.cells #[.int .i64 x.e, .int .i64 x.a, .int .i64 x.v.kind, .int .i64 x.v.n, .string ⟨x.v.s.toArray⟩, .slice sp n c] 49)
  have HB := Lib.hid (hB1.trans (hB2.mono hB1.size))
  clear hR hB1 hB2
  go_enter Try.func44, Try.ntmps44
  go_wp2_with fail
  refine typed_any a x sp n c _ _ (fun w1 hB1 => ?_)
  have hr := HR.out w1 (HB.out.trans (hB1.mono HB.out.size))
  clear hB1
  cases ht : typedB a x
  · rw [ht] at hr
    go_wp2_with fail
    first | exact hr | exact fin hr rfl
  · rw [ht] at hr
    go_wp2_with fail
    first | exact hr | exact fin hr rfl
set_option maxRecDepth 100000 in
set_option maxHeartbeats 2000000 in
theorem Holds7_any (a : Attr) (w : World) (R : Ending → World → Prop) (hR : ∀ w', Below w.heap.size w w' → R (.returned (.bool (partB a))) w') :
    Calls Try.prog 52 #[.agg #[.int .i64 a.id, .string ⟨a.name.toArray⟩, .int .i64 a.type, .bool a.many, .int .i64 a.unique, .bool a.part, .bool a.index]] w R := by
  have hr := hR _ (alloc_below w (.cells #[.int .i64 a.id, .string ⟨a.name.toArray⟩, .int .i64 a.type, .bool a.many, .int .i64 a.unique, .bool a.part, .bool a.index] 24))
  clear hR
  obtain ⟨aid, aname, atype, amany, aunique, apart, aindex⟩ := a
  unfold partB at hr
  simp only at hr ⊢
  cases apart
  · simp only [Bool.false_and] at hr
    go_enter Try.func52, Try.ntmps52
    go_wp2_with fail
    first | exact hr | exact fin hr rfl
  · simp only [Bool.true_and] at hr
    go_enter Try.func52, Try.ntmps52
    go_wp2_with fail
    first | exact hr | exact fin hr rfl
theorem setB_whole : setB [⟨-9223372036854775808, 9223372036854775807⟩] = true := by decide
set_option maxRecDepth 100000 in
set_option maxHeartbeats 2000000 in
theorem Holds6_any (lo hi : Nat) (a : Attr) (x : Ft) (sv : Value) (w : World) (hx : Spans lo hi w sv x.sp) (hhi : hi ≤ w.heap.size) (hl : x.sp.length ≤ 2000000000) (hs : setB x.sp = true) (R : Ending → World → Prop) (hR : ∀ w', Below w.heap.size w w' → R (.returned (.bool (lateB a x))) w') :
    Calls Try.prog 50 #[.agg #[.int .i64 a.id, .string ⟨a.name.toArray⟩, .int .i64 a.type, .bool a.many, .int .i64 a.unique, .bool a.part, .bool a.index], .agg #[.int .i64 x.e, .int .i64 x.a, .int .i64 x.v.kind, .int .i64 x.v.n, .string ⟨x.v.s.toArray⟩, sv]] w R := by
  have HR := Lib.hid hR
  have Hx := Lib.hid hx
  have Hs := Lib.hid hs
  obtain ⟨ax, cx, rfl, -, -, -, -⟩ := hx.form
  clear hR hx hs
  have hB1 := alloc_below w (.cells #[.int .i64 a.id, .string ⟨a.name.toArray⟩, .int .i64 a.type, .bool a.many, .int .i64 a.unique, .bool a.part, .bool a.index] 24)
  have hba := Blk.new w [.int .i64 a.id, .string ⟨a.name.toArray⟩, .int .i64 a.type, .bool a.many, .int .i64 a.unique, .bool a.part, .bool a.index] 24 rfl
  have hs1 : (w.alloc (.cells #[.int .i64 a.id, .string ⟨a.name.toArray⟩, .int .i64 a.type, .bool a.many, .int .i64 a.unique, .bool a.part, .bool a.index] 24)).heap.size = w.heap.size + 1 := by simp
  have hB2 := alloc_below (w.alloc (.cells #[.int .i64 a.id, .string ⟨a.name.toArray⟩, .int .i64 a.type, .bool a.many, .int .i64 a.unique, .bool a.part, .bool a.index] 24)) (.cells #[.int .i64 x.e, .int .i64 x.a, .int .i64 x.v.kind, .int .i64 x.v.n, .string ⟨x.v.s.toArray⟩, .slice ax x.sp.length cx] 49)
  have hbx := Blk.new (w.alloc (.cells #[.int .i64 a.id, .string ⟨a.name.toArray⟩, .int .i64 a.type, .bool a.many, .int .i64 a.unique, .bool a.part, .bool a.index] 24)) [.int .i64 x.e, .int .i64 x.a, .int .i64 x.v.kind, .int .i64 x.v.n, .string ⟨x.v.s.toArray⟩, .slice ax x.sp.length cx] 49 hs1.symm
  go_enter Try.func50, Try.ntmps50
  go_upto_region 1 with fail
  have hba2 := hba.below hB2 hba.lt
  have HB2 := Lib.hid (hB1.trans (hB2.mono hB1.size))
  generalize (w.alloc (.cells #[.int .i64 a.id, .string ⟨a.name.toArray⟩, .int .i64 a.type, .bool a.many, .int .i64 a.unique, .bool a.part, .bool a.index] 24)).alloc (.cells #[.int .i64 x.e, .int .i64 x.a, .int .i64 x.v.kind, .int .i64 x.v.n, .string ⟨x.v.s.toArray⟩, .slice ax x.sp.length cx] 49) = w2 at *
  obtain ⟨a0, a1, a2, a3, a4, a5, a6⟩ := hba2.cells.c7
  obtain ⟨x0, x1, x2, x3, x4, x5⟩ := hbx.cells.f6
  have hz2 := HB2.out.size
  clear hB1 hB2 hba hba2 hbx hs1
  by_cases h1 : a.id < 10
  · have hal := alloc_below w2 (.cells #[.int .i64 (-9223372036854775808), .int .i64 9223372036854775807] 58)
    have hone : Spans w2.heap.size (w2.heap.size + 1) (w2.alloc (.cells #[.int .i64 (-9223372036854775808), .int .i64 9223372036854775807] 58)) (.slice (some ⟨w2.heap.size, 0, none⟩) 1 1) [⟨-9223372036854775808, 9223372036854775807⟩] :=
      ⟨_, 1, rfl, Nat.le_refl _, by simp [maxLen], fun e => (by cases e), fun _ => ⟨w2.heap.size, 0, rfl, Nat.le_refl _, Nat.lt_succ_self _, fun k hk => ⟨_, rfl, by
        obtain rfl : k = 0 := by simpa using hk
        exact CellsAt.new w2 [.int .i64 (-9223372036854775808), .int .i64 9223372036854775807] 58, rfl⟩⟩⟩
    have HB3 := Lib.hid (HB2.out.trans (hal.mono hz2))
    have Hone := Lib.hid hone
    clear hal hone
    have hs3 : (w2.alloc (.cells #[.int .i64 (-9223372036854775808), .int .i64 9223372036854775807] 58)).heap.size = w2.heap.size + 1 := by simp
    go_wp2_with fail
    refine covers_any 0 (w2.heap.size + 1) x.sp [⟨-9223372036854775808, 9223372036854775807⟩] _ _ _ (Sl.mono (Sl.below Hx.out Sp.loc HB3.out hhi) Sp.loc (Nat.zero_le _) (by omega)) (Sl.mono Hone.out Sp.loc (Nat.zero_le _) (Nat.le_refl _)) (by rw [hs3]; exact Nat.le_refl _) hl (by simp) Hs.out setB_whole _ (fun w4 hB4 => ?_)
    have hr := HR.out w4 (HB3.out.trans (hB4.mono HB3.out.size))
    clear hB4
    unfold lateB at hr
    rw [decide_eq_true h1] at hr
    cases hw : wholeB x.sp
    · rw [hw] at hr
      unfold wholeB at hw
      rw [hw]
      go_wp2_with fail
      first | exact hr | exact fin hr rfl
    · rw [hw] at hr
      unfold wholeB at hw
      rw [hw]
      go_wp2_with fail
      first | exact hr | exact fin hr rfl
  · have hr := HR.out w2 HB2.out
    unfold lateB at hr
    rw [decide_eq_false h1] at hr
    go_wp2_with fail
    first | exact hr | exact fin hr rfl
end Go.Proofs.Ytkcpanaojehgiaa
