/- Who has a name, or a number; two lists of attributes. (Printed by schl.py.) -/
import Derived.Test.YtkcpanaojehgiaaSchK
namespace Go.Proofs.Ytkcpanaojehgiaa
open Go.RowKit
set_option linter.unusedVariables false
set_option linter.unusedSimpArgs false

def findA (xs : List Attr) (o : Option Nat) : Attr := match o with
  | some i => xs.getD i zeroA
  | none => zeroA
set_option maxRecDepth 100000 in
set_option maxHeartbeats 4000000 in
theorem find_any (lo hi : Nat) (v : Value) (xs : List Attr) (f : FuncId) (capt : Array Value) (p : Attr → Bool) (w : World) (hv : Attrs lo hi w v xs) (hhi : hi ≤ w.heap.size)
    (he : ∀ args w, (callFunc f args).run Try.prog w = .ok (.enter f args) w)
    (hp : ∀ a w' R, Below (w.heap.size + 1) (w.alloc (.cells #[.int .i64 0, .string ⟨#[]⟩, .int .i64 0, .bool false, .int .i64 0, .bool false, .bool false] 24)) w' → (∀ w'', Below w'.heap.size w' w'' → R (.returned (.bool (p a))) w'') →
      Calls Try.prog f (#[.agg #[.int .i64 a.id, .string ⟨a.name.toArray⟩, .int .i64 a.type, .bool a.many, .int .i64 a.unique, .bool a.part, .bool a.index]] ++ capt) w' R)
    (R : Ending → World → Prop) (hR : ∀ w', Below w.heap.size w w' → R (.returned (.tuple #[.agg #[.int .i64 (findA xs (xs.findIdx? p)).id, .string ⟨(findA xs (xs.findIdx? p)).name.toArray⟩, .int .i64 (findA xs (xs.findIdx? p)).type, .bool (findA xs (xs.findIdx? p)).many, .int .i64 (findA xs (xs.findIdx? p)).unique, .bool (findA xs (xs.findIdx? p)).part, .bool (findA xs (xs.findIdx? p)).index], .bool (xs.findIdx? p).isSome])) w') :
    Calls Try.prog 37 #[v, .func (.func f) #[] capt] w R := by
  have HR := Lib.hid hR
  have Hv := Lib.hid hv
  have Hp := Lib.hid hp
  obtain ⟨ao, cap, rfl, -, -, -, -⟩ := hv.form
  clear hR hv hp
  have hB0 := alloc_below w (.cells #[.int .i64 0, .string ⟨#[]⟩, .int .i64 0, .bool false, .int .i64 0, .bool false, .bool false] 24)
  have hz0 := Blk.new w [.int .i64 0, .string ⟨#[]⟩, .int .i64 0, .bool false, .int .i64 0, .bool false, .bool false] 24 rfl
  have hs0 : (w.alloc (.cells #[.int .i64 0, .string ⟨#[]⟩, .int .i64 0, .bool false, .int .i64 0, .bool false, .bool false] 24)).heap.size = w.heap.size + 1 := by simp
  go_enter Try.func37, Try.ntmps37
  go_upto_region 1 with fail
  generalize w.alloc (.cells #[.int .i64 0, .string ⟨#[]⟩, .int .i64 0, .bool false, .int .i64 0, .bool false, .bool false] 24) = w0 at *
  have hzl := hz0.lt
  go_wp2_with fail
  refine IndexFunc_attr lo hi _ xs f capt p w0 (Sl.below Hv.out Attrs.loc hB0 hhi) (by omega) he (fun a w' R' hb hR' => Hp.out a w' R' (by rw [hs0] at hb; exact hb) hR') _ (fun o w1 ho hB1 => ?_)
  have HB1 := Lib.hid (hB0.trans (hB1.mono hB0.size))
  have hz1 := hz0.below hB1 hzl
  have Hz1 := Lib.hid hz1
  obtain ⟨z0, z1, z2, z3, z4, z5, z6⟩ := hz1.cells.c7
  have f1 := hz1.free
  have Hv1 := Lib.hid (Sl.below Hv.out Attrs.loc HB1.out hhi)
  have hzs := HB1.out.size
  have Hoo := Lib.hid ho
  clear hB0 hB1 hz0 hz1 ho
  cases o with
  | none =>
    have H2 := HR.out
    rw [← Hoo.out] at H2
    simp only [findA, Option.isSome_none] at H2
    have HR := Lib.hid H2
    clear H2
    simp only [oidx]
    have hr := HR.out (set7 w1 w.heap.size (.int .i64 0) (.string ⟨#[]⟩) (.int .i64 0) (.bool false) (.int .i64 0) (.bool false) (.bool false)) (below_set7 HB1.out (Nat.le_refl _) _ _ _ _ _ _ _)
    have hrv := (Blk.set7 Hz1.out (.int .i64 0) (.string ⟨#[]⟩) (.int .i64 0) (.bool false) (.int .i64 0) (.bool false) (.bool false)).runAttr
    unfold set7 at hr hrv
    have Hr := Lib.hid hr
    have Hrv := Lib.hid hrv
    clear hr hrv
    go_wp2_with fail
    exact ret_cell_tmp rfl rfl Hrv.out rfl rfl Hr.out
  | some i =>
    obtain ⟨hi1, -, -⟩ := List.findIdx?_eq_some_iff_getElem.1 Hoo.out.symm
    have H2 := HR.out
    rw [← Hoo.out] at H2
    simp only [findA, Option.isSome_some] at H2
    rw [getD_at xs _ i hi1] at H2
    have HR := Lib.hid H2
    clear H2
    obtain ⟨ao', cap', e', -, -, -, hc⟩ := Hv1.out.form
    injection e' with e1 e2 e3
    subst e1 e3
    obtain ⟨b, off, rfl, hb1, hb2, hcc⟩ := hc i hi1
    obtain ⟨cs, _, hcs, rfl⟩ := hcc i hi1
    obtain ⟨h0, h1, h2, h3, h4, h5, h6⟩ := hcs.c7
    clear hcs hc hcc
    have ii0 : (0 : Int) ≤ (i : Int) := by omega
    have iil : (i : Int) < (xs.length : Int) := by omega
    have in1 : ¬ (i : Int) < 0 := by omega
    have in2 : decide ((i : Int) < 0) = false := decide_eq_false in1
    generalize xs[i] = x at *
    clear he hs0
    simp only [oidx]
    have hr := HR.out (set7 w1 w.heap.size (.int .i64 x.id) (.string ⟨x.name.toArray⟩) (.int .i64 x.type) (.bool x.many) (.int .i64 x.unique) (.bool x.part) (.bool x.index)) (below_set7 HB1.out (Nat.le_refl _) _ _ _ _ _ _ _)
    have hrv := (Blk.set7 Hz1.out (.int .i64 x.id) (.string ⟨x.name.toArray⟩) (.int .i64 x.type) (.bool x.many) (.int .i64 x.unique) (.bool x.part) (.bool x.index)).runAttr
    unfold set7 at hr hrv
    have Hr := Lib.hid hr
    have Hrv := Lib.hid hrv
    clear hr hrv
    go_wp2_with fail
    exact ret_cell_tmp rfl rfl Hrv.out rfl rfl Hr.out
def byName (s : List UInt8) (a : Attr) : Bool := a.name == s
def byID (n : Int) (a : Attr) : Bool := a.id == n
set_option maxRecDepth 100000 in
set_option maxHeartbeats 2000000 in
theorem ByName_1 (x : List UInt8) (a : Attr) (B : Nat) (w : World) (h : CellsAt w B 0 [.string ⟨x.toArray⟩]) (hB : B < w.heap.size) (R : Ending → World → Prop) (hR : ∀ w', Below w.heap.size w w' → R (.returned (.bool (byName x a))) w') :
    Calls Try.prog 38 #[.agg #[.int .i64 a.id, .string ⟨a.name.toArray⟩, .int .i64 a.type, .bool a.many, .int .i64 a.unique, .bool a.part, .bool a.index], .pointer (some ⟨B, 0, none⟩)] w R := by
  have h0 := h.c1
  have hr := hR _ (alloc_below w (.cells #[.int .i64 a.id, .string ⟨a.name.toArray⟩, .int .i64 a.type, .bool a.many, .int .i64 a.unique, .bool a.part, .bool a.index] 24))
  clear h hR
  obtain ⟨aid, aname, atype, amany, aunique, apart, aindex⟩ := a
  unfold byName at hr
  go_enter Try.func38, Try.ntmps38
  go_wp2_with fail
  first | exact hr | exact fin hr rfl
set_option maxRecDepth 100000 in
set_option maxHeartbeats 4000000 in
theorem ByName_any (lo hi : Nat) (v : Value) (xs : List Attr) (x : List UInt8) (w : World) (hv : Attrs lo hi w v xs) (hhi : hi ≤ w.heap.size) (R : Ending → World → Prop)
    (hR : ∀ w', Below w.heap.size w w' → R (.returned (.tuple #[.agg #[.int .i64 (findA xs (xs.findIdx? (byName x))).id, .string ⟨(findA xs (xs.findIdx? (byName x))).name.toArray⟩, .int .i64 (findA xs (xs.findIdx? (byName x))).type, .bool (findA xs (xs.findIdx? (byName x))).many, .int .i64 (findA xs (xs.findIdx? (byName x))).unique, .bool (findA xs (xs.findIdx? (byName x))).part, .bool (findA xs (xs.findIdx? (byName x))).index], .bool (xs.findIdx? (byName x)).isSome])) w') : Calls Try.prog 17 #[v, .string ⟨x.toArray⟩] w R := by
  have HR := Lib.hid hR
  have Hv := Lib.hid hv
  obtain ⟨ao, cap, rfl, -, -, -, -⟩ := hv.form
  clear hR hv
  have hB0 := alloc_below w (.cells #[.string ⟨x.toArray⟩] 9)
  have hn0 := Blk.new w [.string ⟨x.toArray⟩] 9 rfl
  have hs0 : (w.alloc (.cells #[.string ⟨x.toArray⟩] 9)).heap.size = w.heap.size + 1 := by simp
  have hB1 := alloc_below (w.alloc (.cells #[.string ⟨x.toArray⟩] 9)) (.cells #[.int .i64 0, .string ⟨#[]⟩, .int .i64 0, .bool false, .int .i64 0, .bool false, .bool false] 24)
  have hz0 := Blk.new (w.alloc (.cells #[.string ⟨x.toArray⟩] 9)) [.int .i64 0, .string ⟨#[]⟩, .int .i64 0, .bool false, .int .i64 0, .bool false, .bool false] 24 hs0.symm
  go_enter Try.func17, Try.ntmps17
  go_upto_region 1 with fail
  have hn1 := hn0.below hB1 hn0.lt
  have HB := Lib.hid (hB0.trans (hB1.mono hB0.size))
  generalize (w.alloc (.cells #[.string ⟨x.toArray⟩] 9)).alloc (.cells #[.int .i64 0, .string ⟨#[]⟩, .int .i64 0, .bool false, .int .i64 0, .bool false, .bool false] 24) = w0 at *
  have hzl := hz0.lt
  have hnl := hn1.lt
  clear hn0 hB0 hB1 hs0
  go_wp2_with fail
  refine find_any lo hi _ xs 38 _ (byName x) w0 (Sl.below Hv.out Attrs.loc HB.out hhi) (by omega) (enters_of Try.func38 (by kernel_rfl) rfl) (fun a w' R' hb hR' => ?_) _ (fun w1 hB1 => ?_)
  · have hh : Below w0.heap.size w0 w' := (alloc_below w0 _).trans (hb.mono (by omega))
    exact ByName_1 x a w.heap.size w' (hn1.below hh hnl).cells (Nat.lt_of_lt_of_le hnl hh.size) R' hR'
  have HB1 := Lib.hid (HB.out.trans (hB1.mono HB.out.size))
  have hz1 := hz0.below hB1 hzl
  have Hz1 := Lib.hid hz1
  obtain ⟨z0, z1, z2, z3, z4, z5, z6⟩ := hz1.cells.c7
  have f1 := hz1.free
  have hzs := HB1.out.size
  clear hB1 hz1 hz0 hn1
  generalize findA xs (xs.findIdx? (byName x)) = y at *
  generalize (xs.findIdx? (byName x)).isSome = yb at *
  have hr := HR.out (set7 w1 (w.heap.size + 1) (.int .i64 y.id) (.string ⟨y.name.toArray⟩) (.int .i64 y.type) (.bool y.many) (.int .i64 y.unique) (.bool y.part) (.bool y.index)) (below_set7 HB1.out (Nat.le_succ _) _ _ _ _ _ _ _)
  have hrv := (Blk.set7 Hz1.out (.int .i64 y.id) (.string ⟨y.name.toArray⟩) (.int .i64 y.type) (.bool y.many) (.int .i64 y.unique) (.bool y.part) (.bool y.index)).runAttr
  unfold set7 at hr hrv
  have Hr := Lib.hid hr
  have Hrv := Lib.hid hrv
  clear hr hrv
  go_wp2_with fail
  exact ret_cell_tmp rfl rfl Hrv.out rfl rfl Hr.out
set_option maxRecDepth 100000 in
set_option maxHeartbeats 2000000 in
theorem ByID_1 (x : Int) (a : Attr) (B : Nat) (w : World) (h : CellsAt w B 0 [.int .i64 x]) (hB : B < w.heap.size) (R : Ending → World → Prop) (hR : ∀ w', Below w.heap.size w w' → R (.returned (.bool (byID x a))) w') :
    Calls Try.prog 39 #[.agg #[.int .i64 a.id, .string ⟨a.name.toArray⟩, .int .i64 a.type, .bool a.many, .int .i64 a.unique, .bool a.part, .bool a.index], .pointer (some ⟨B, 0, none⟩)] w R := by
  have h0 := h.c1
  have hr := hR _ (alloc_below w (.cells #[.int .i64 a.id, .string ⟨a.name.toArray⟩, .int .i64 a.type, .bool a.many, .int .i64 a.unique, .bool a.part, .bool a.index] 24))
  clear h hR
  obtain ⟨aid, aname, atype, amany, aunique, apart, aindex⟩ := a
  unfold byID at hr
  go_enter Try.func39, Try.ntmps39
  go_wp2_with fail
  first | exact hr | exact fin hr rfl
set_option maxRecDepth 100000 in
set_option maxHeartbeats 4000000 in
theorem ByID_any (lo hi : Nat) (v : Value) (xs : List Attr) (x : Int) (w : World) (hv : Attrs lo hi w v xs) (hhi : hi ≤ w.heap.size) (R : Ending → World → Prop)
    (hR : ∀ w', Below w.heap.size w w' → R (.returned (.tuple #[.agg #[.int .i64 (findA xs (xs.findIdx? (byID x))).id, .string ⟨(findA xs (xs.findIdx? (byID x))).name.toArray⟩, .int .i64 (findA xs (xs.findIdx? (byID x))).type, .bool (findA xs (xs.findIdx? (byID x))).many, .int .i64 (findA xs (xs.findIdx? (byID x))).unique, .bool (findA xs (xs.findIdx? (byID x))).part, .bool (findA xs (xs.findIdx? (byID x))).index], .bool (xs.findIdx? (byID x)).isSome])) w') : Calls Try.prog 19 #[v, .int .i64 x] w R := by
  have HR := Lib.hid hR
  have Hv := Lib.hid hv
  obtain ⟨ao, cap, rfl, -, -, -, -⟩ := hv.form
  clear hR hv
  have hB0 := alloc_below w (.cells #[.int .i64 x] 2)
  have hn0 := Blk.new w [.int .i64 x] 2 rfl
  have hs0 : (w.alloc (.cells #[.int .i64 x] 2)).heap.size = w.heap.size + 1 := by simp
  have hB1 := alloc_below (w.alloc (.cells #[.int .i64 x] 2)) (.cells #[.int .i64 0, .string ⟨#[]⟩, .int .i64 0, .bool false, .int .i64 0, .bool false, .bool false] 24)
  have hz0 := Blk.new (w.alloc (.cells #[.int .i64 x] 2)) [.int .i64 0, .string ⟨#[]⟩, .int .i64 0, .bool false, .int .i64 0, .bool false, .bool false] 24 hs0.symm
  go_enter Try.func19, Try.ntmps19
  go_upto_region 1 with fail
  have hn1 := hn0.below hB1 hn0.lt
  have HB := Lib.hid (hB0.trans (hB1.mono hB0.size))
  generalize (w.alloc (.cells #[.int .i64 x] 2)).alloc (.cells #[.int .i64 0, .string ⟨#[]⟩, .int .i64 0, .bool false, .int .i64 0, .bool false, .bool false] 24) = w0 at *
  have hzl := hz0.lt
  have hnl := hn1.lt
  clear hn0 hB0 hB1 hs0
  go_wp2_with fail
  refine find_any lo hi _ xs 39 _ (byID x) w0 (Sl.below Hv.out Attrs.loc HB.out hhi) (by omega) (enters_of Try.func39 (by kernel_rfl) rfl) (fun a w' R' hb hR' => ?_) _ (fun w1 hB1 => ?_)
  · have hh : Below w0.heap.size w0 w' := (alloc_below w0 _).trans (hb.mono (by omega))
    exact ByID_1 x a w.heap.size w' (hn1.below hh hnl).cells (Nat.lt_of_lt_of_le hnl hh.size) R' hR'
  have HB1 := Lib.hid (HB.out.trans (hB1.mono HB.out.size))
  have hz1 := hz0.below hB1 hzl
  have Hz1 := Lib.hid hz1
  obtain ⟨z0, z1, z2, z3, z4, z5, z6⟩ := hz1.cells.c7
  have f1 := hz1.free
  have hzs := HB1.out.size
  clear hB1 hz1 hz0 hn1
  generalize findA xs (xs.findIdx? (byID x)) = y at *
  generalize (xs.findIdx? (byID x)).isSome = yb at *
  have hr := HR.out (set7 w1 (w.heap.size + 1) (.int .i64 y.id) (.string ⟨y.name.toArray⟩) (.int .i64 y.type) (.bool y.many) (.int .i64 y.unique) (.bool y.part) (.bool y.index)) (below_set7 HB1.out (Nat.le_succ _) _ _ _ _ _ _ _)
  have hrv := (Blk.set7 Hz1.out (.int .i64 y.id) (.string ⟨y.name.toArray⟩) (.int .i64 y.type) (.bool y.many) (.int .i64 y.unique) (.bool y.part) (.bool y.index)).runAttr
  unfold set7 at hr hrv
  have Hr := Lib.hid hr
  have Hrv := Lib.hid hrv
  clear hr hrv
  go_wp2_with fail
  exact ret_cell_tmp rfl rfl Hrv.out rfl rfl Hr.out
end Go.Proofs.Ytkcpanaojehgiaa
