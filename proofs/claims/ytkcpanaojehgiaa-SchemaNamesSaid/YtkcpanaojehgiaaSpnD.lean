/- And, Minus, Covers of sets; do two facts meet? -/
import Derived.Test.YtkcpanaojehgiaaSpnC
namespace Go.Proofs.Ytkcpanaojehgiaa
open Go.RowKit
set_option linter.unusedVariables false
set_option linter.unusedSimpArgs false

theorem OwnS.lower {lo lo' : Nat} {w : World} {v : Value} {xs : List Sp} (h : OwnS lo w v xs) (hl : lo' ≤ lo) : OwnS lo' w v xs :=
  ⟨h.1, h.2.imp id fun ⟨g, cap, cur, e1, h1, h2⟩ => ⟨g, cap, cur, e1, Nat.le_trans hl h1, h2⟩⟩
set_option maxRecDepth 100000 in
set_option maxHeartbeats 4000000 in
theorem and_any (lo hi : Nat) (a b : List Sp) (va vb : Value) (w : World) (hva : Spans lo hi w va a) (hvb : Spans lo hi w vb b) (hhi : hi ≤ w.heap.size) (hla : a.length ≤ 2000000000000) (hlb : b.length ≤ 2000000000000) (hsa : setB a = true) (hsb : setB b = true) (R : Ending → World → Prop)
    (hR : ∀ w' v', Below w.heap.size w w' → OwnS w.heap.size w' v' (sharedL a b) → R (.returned (.tuple #[v', .int .i64 0])) w') : Calls Try.prog 73 #[va, vb] w R := by
  have HR := Lib.hid hR
  have Hva := Lib.hid hva
  have Hvb := Lib.hid hvb
  have Hsa := Lib.hid hsa
  have Hsb := Lib.hid hsb
  obtain ⟨aa, ca, rfl, -, -, -, -⟩ := hva.form
  obtain ⟨ab, cb, rfl, -, -, -, -⟩ := hvb.form
  clear hR hva hvb hsa hsb
  go_enter Try.func73, Try.ntmps73
  go_wp2_with fail
  refine set_any lo hi a _ w Hva.out hhi _ (fun w1 hB1 => ?_)
  rw [Hsa.out]
  have HB1 := Lib.hid hB1
  have hz1 := hB1.size
  clear hB1
  go_wp2_with fail
  refine set_any lo hi b _ w1 (Sl.below Hvb.out Sp.loc HB1.out hhi) (by omega) _ (fun w2 hB2 => ?_)
  rw [Hsb.out]
  have HB2 := Lib.hid (HB1.out.trans (hB2.mono hz1))
  have hz2 := HB2.out.size
  clear hB2
  go_wp2_with fail
  refine shared_any lo hi a b _ _ w2 (Sl.below Hva.out Sp.loc HB2.out hhi) (Sl.below Hvb.out Sp.loc HB2.out hhi) (by omega) hla hlb _ (fun w3 v3 hB3 ho3 => ?_)
  have hr := HR.out w3 v3 (HB2.out.trans (hB3.mono hz2)) (OwnS.lower ho3 hz2)
  obtain ⟨p3, c3, rfl⟩ := Own.slice ho3
  clear hB3 ho3
  go_wp2_with fail
  first | exact hr | exact fin hr rfl
set_option maxRecDepth 100000 in
set_option maxHeartbeats 4000000 in
theorem meet_any (lo hi : Nat) (x y : Ft) (vx vy : Value) (w : World) (hx : Spans lo hi w vx x.sp) (hy : Spans lo hi w vy y.sp) (hhi : hi ≤ w.heap.size) (hlx : x.sp.length ≤ 2000000000000) (hly : y.sp.length ≤ 2000000000000) (hsx : setB x.sp = true) (hsy : setB y.sp = true) (R : Ending → World → Prop)
    (hR : ∀ w', Below w.heap.size w w' → R (.returned (.bool (!(sharedL x.sp y.sp).isEmpty))) w') : Calls Try.prog 65 #[.agg #[.int .i64 x.e, .int .i64 x.a, .int .i64 x.v.kind, .int .i64 x.v.n, .string ⟨x.v.s.toArray⟩, vx], .agg #[.int .i64 y.e, .int .i64 y.a, .int .i64 y.v.kind, .int .i64 y.v.n, .string ⟨y.v.s.toArray⟩, vy]] w R := by
  have HR := Lib.hid hR
  have Hx := Lib.hid hx
  have Hy := Lib.hid hy
  have Hsx := Lib.hid hsx
  have Hsy := Lib.hid hsy
  obtain ⟨ax, cx, rfl, -, -, -, -⟩ := hx.form
  obtain ⟨ay, cy, rfl, -, -, -, -⟩ := hy.form
  clear hR hx hy hsx hsy
  have hB1 := alloc_below w (.cells #[.int .i64 x.e, .int .i64 x.a, .int .i64 x.v.kind, .int .i64 x.v.n, .string ⟨x.v.s.toArray⟩, .slice ax x.sp.length cx] 49)
  have hbx := Blk.new w [.int .i64 x.e, .int .i64 x.a, .int .i64 x.v.kind, .int .i64 x.v.n, .string ⟨x.v.s.toArray⟩, .slice ax x.sp.length cx] 49 rfl
  have hs1 : (w.alloc (.cells #[.int .i64 x.e, .int .i64 x.a, .int .i64 x.v.kind, .int .i64 x.v.n, .string ⟨x.v.s.toArray⟩, .slice ax x.sp.length cx] 49)).heap.size = w.heap.size + 1 := by simp
  have hB2 := alloc_below (w.alloc (.cells #[.int .i64 x.e, .int .i64 x.a, .int .i64 x.v.kind, .int .i64 x.v.n, .string ⟨x.v.s.toArray⟩, .slice ax x.sp.length cx] 49)) (.cells #[.int .i64 y.e, .int .i64 y.a, .int .i64 y.v.kind, .int .i64 y.v.n, .string ⟨y.v.s.toArray⟩, .slice ay y.sp.length cy] 49)
  have hby := Blk.new (w.alloc (.cells #[.int .i64 x.e, .int .i64 x.a, .int .i64 x.v.kind, .int .i64 x.v.n, .string ⟨x.v.s.toArray⟩, .slice ax x.sp.length cx] 49)) [.int .i64 y.e, .int .i64 y.a, .int .i64 y.v.kind, .int .i64 y.v.n, .string ⟨y.v.s.toArray⟩, .slice ay y.sp.length cy] 49 hs1.symm
  go_enter Try.func65, Try.ntmps65
  go_upto_region 1 with fail
  have hbx2 := hbx.below hB2 hbx.lt
  have HB2 := Lib.hid (hB1.trans (hB2.mono hB1.size))
  generalize (w.alloc (.cells #[.int .i64 x.e, .int .i64 x.a, .int .i64 x.v.kind, .int .i64 x.v.n, .string ⟨x.v.s.toArray⟩, .slice ax x.sp.length cx] 49)).alloc (.cells #[.int .i64 y.e, .int .i64 y.a, .int .i64 y.v.kind, .int .i64 y.v.n, .string ⟨y.v.s.toArray⟩, .slice ay y.sp.length cy] 49) = w2 at *
  obtain ⟨x0, x1, x2, x3, x4, x5⟩ := hbx2.cells.f6
  obtain ⟨y0, y1, y2, y3, y4, y5⟩ := hby.cells.f6
  have hz2 := HB2.out.size
  clear hB1 hB2 hbx hby hbx2 hs1
  go_wp2_with fail
  refine and_any lo hi x.sp y.sp _ _ w2 (Sl.below Hx.out Sp.loc HB2.out hhi) (Sl.below Hy.out Sp.loc HB2.out hhi) (by omega) hlx hly Hsx.out Hsy.out _ (fun w3 v3 hB3 ho3 => ?_)
  have hr := HR.out w3 (HB2.out.trans (hB3.mono hz2))
  obtain ⟨p3, c3, rfl⟩ := Own.slice ho3
  clear hB3 ho3 x0 x1 x2 x3 x4 x5 y0 y1 y2 y3 y4 y5
  generalize sharedL x.sp y.sp = L at *
  cases L with
  | nil =>
    simp only [List.length_nil, List.isEmpty_nil, Bool.not_true] at *
    go_wp2_with fail
    first | exact hr | exact fin hr rfl
  | cons s r =>
    simp only [List.isEmpty_cons, Bool.not_false, List.length_cons] at *
    generalize r.length = n at *
    go_wp2_with fail
    first | exact hr | exact fin hr rfl
set_option maxRecDepth 100000 in
set_option maxHeartbeats 4000000 in
theorem minus_any (lo hi : Nat) (a b : List Sp) (va vb : Value) (w : World) (hva : Spans lo hi w va a) (hvb : Spans lo hi w vb b) (hhi : hi ≤ w.heap.size) (hla : a.length ≤ 2000000000) (hlb : b.length ≤ 2000000000) (hsa : setB a = true) (hsb : setB b = true) (R : Ending → World → Prop)
    (hR : ∀ w' v', Below w.heap.size w w' → OwnS w.heap.size w' v' (sharedL a (restL (-9223372036854775808) b)) → R (.returned (.tuple #[v', .int .i64 0])) w') : Calls Try.prog 66 #[va, vb] w R := by
  have HR := Lib.hid hR
  have Hva := Lib.hid hva
  have Hvb := Lib.hid hvb
  have Hsa := Lib.hid hsa
  have Hsb := Lib.hid hsb
  obtain ⟨aa, ca, rfl, -, -, -, -⟩ := hva.form
  obtain ⟨ab, cb, rfl, -, -, -, -⟩ := hvb.form
  clear hR hva hvb hsa hsb
  go_enter Try.func66, Try.ntmps66
  go_wp2_with fail
  refine set_any lo hi a _ w Hva.out hhi _ (fun w1 hB1 => ?_)
  rw [Hsa.out]
  have HB1 := Lib.hid hB1
  have hz1 := hB1.size
  clear hB1
  go_wp2_with fail
  refine set_any lo hi b _ w1 (Sl.below Hvb.out Sp.loc HB1.out hhi) (by omega) _ (fun w2 hB2 => ?_)
  rw [Hsb.out]
  have HB2 := Lib.hid (HB1.out.trans (hB2.mono hz1))
  have hz2 := HB2.out.size
  clear hB2
  go_wp2_with fail
  refine rest_any lo hi b _ w2 (Sl.below Hvb.out Sp.loc HB2.out hhi) (by omega) (by omega) _ (fun w3 v3 hB3 ho3 => ?_)
  have HB3 := Lib.hid (HB2.out.trans (hB3.mono hz2))
  have hz3 := hB3.size
  have hrl := restL_bound b (-9223372036854775808)
  have Hs3 := Lib.hid (OwnS.spans ho3)
  obtain ⟨p3, c3, rfl⟩ := Own.slice ho3
  clear hB3 ho3
  go_wp2_with fail
  have hs1 := Sl.below Hva.out Sp.loc HB3.out hhi
  refine shared_any 0 w3.heap.size a (restL (-9223372036854775808) b) _ _ w3 (Sl.mono hs1 Sp.loc (Nat.zero_le _) (by omega)) (Sl.mono Hs3.out Sp.loc (Nat.zero_le _) (Nat.le_refl _)) (Nat.le_refl _) (by omega) (by omega) _ (fun w4 v4 hB4 ho4 => ?_)
  have hr := HR.out w4 v4 (HB3.out.trans (hB4.mono (by omega))) (OwnS.lower ho4 (by omega))
  obtain ⟨p4, c4, rfl⟩ := Own.slice ho4
  clear hB4 ho4
  go_wp2_with fail
  first | exact hr | exact fin hr rfl
set_option maxRecDepth 100000 in
set_option maxHeartbeats 4000000 in
theorem covers_any (lo hi : Nat) (a b : List Sp) (va vb : Value) (w : World) (hva : Spans lo hi w va a) (hvb : Spans lo hi w vb b) (hhi : hi ≤ w.heap.size) (hla : a.length ≤ 2000000000) (hlb : b.length ≤ 2000000000) (hsa : setB a = true) (hsb : setB b = true) (R : Ending → World → Prop)
    (hR : ∀ w', Below w.heap.size w w' → R (.returned (.bool (sharedL b (restL (-9223372036854775808) a)).isEmpty)) w') : Calls Try.prog 51 #[va, vb] w R := by
  have HR := Lib.hid hR
  have Hva := Lib.hid hva
  have Hvb := Lib.hid hvb
  have Hsa := Lib.hid hsa
  have Hsb := Lib.hid hsb
  obtain ⟨aa, ca, rfl, -, -, -, -⟩ := hva.form
  obtain ⟨ab, cb, rfl, -, -, -, -⟩ := hvb.form
  clear hR hva hvb hsa hsb
  go_enter Try.func51, Try.ntmps51
  go_wp2_with fail
  refine minus_any lo hi b a _ _ w Hvb.out Hva.out hhi hlb hla Hsb.out Hsa.out _ (fun w3 v3 hB3 ho3 => ?_)
  have hr := HR.out w3 hB3
  obtain ⟨p3, c3, rfl⟩ := Own.slice ho3
  clear hB3 ho3
  generalize sharedL b (restL (-9223372036854775808) a) = L at *
  cases L with
  | nil =>
    simp only [List.length_nil, List.isEmpty_nil] at *
    go_wp2_with fail
    first | exact hr | exact fin hr rfl
  | cons s r =>
    simp only [List.isEmpty_cons, List.length_cons] at *
    generalize r.length = n at *
    have hn : (((n + 1 : Nat) : Int) == 0) = false := by rw [beq_eq_false_iff_ne]; omega
    have hn2 : ((n : Int) + 1 == 0) = false := by rw [beq_eq_false_iff_ne]; omega
    go_wp2_with fail
    first | exact hr | exact fin hr rfl
end Go.Proofs.Ytkcpanaojehgiaa
