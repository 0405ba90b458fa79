/- Holds: who has a name? (Printed by hldc.py.) -/
import Derived.Test.YtkcpanaojehgiaaHldB
import Derived.WalkMore
import Derived.Scope
namespace Go.Proofs.Ytkcpanaojehgiaa
open Go.RowKit Go.ChangeMaps Go.WideMaps Go.Maps
set_option linter.unusedVariables false
set_option linter.unusedSimpArgs false

def oneB (f : Int → Attr) (x y : Ft) : Bool := x.e == y.e && !(f x.a).many
def uniqB (f : Int → Attr) (x y : Ft) : Bool := x.e != y.e && decide (x.v = y.v) && decide (0 < (f x.a).unique)
set_option maxRecDepth 100000 in
set_option maxHeartbeats 2000000 in
theorem Holds4_any (x y : Ft) (sx sy : Option Addr) (nx cx ny cy mb b n : Nat) (f : Int → Attr) (w : World) (hmb : Blk w mb [.map (some b)] 67) (hm : MapA w b n f) (h1 : 0 ≤ x.a) (h2 : x.a < 9007199254740992) (R : Ending → World → Prop)
    (hR : ∀ w', Below w.heap.size w w' → R (.returned (.bool (oneB f x y))) w') : Calls Try.prog 48 #[.agg #[.int .i64 x.e, .int .i64 x.a, .int .i64 x.v.kind, .int .i64 x.v.n, .string ⟨x.v.s.toArray⟩, .slice sx nx cx], .agg #[.int .i64 y.e, .int .i64 y.a, .int .i64 y.v.kind, .int .i64 y.v.n, .string ⟨y.v.s.toArray⟩, .slice sy ny cy], .pointer (some ⟨mb, 0, none⟩)] w R := by
  have hB1 := alloc_below w (.cells #[.int .i64 x.e, .int .i64 x.a, .int .i64 x.v.kind, .int .i64 x.v.n, .string ⟨x.v.s.toArray⟩, .slice sx nx cx] 49)
  have hbx := Blk.new w [.int .i64 x.e, .int .i64 x.a, .int .i64 x.v.kind, .int .i64 x.v.n, .string ⟨x.v.s.toArray⟩, .slice sx nx cx] 49 rfl
  have hs1 : (w.alloc (.cells #[.int .i64 x.e, .int .i64 x.a, .int .i64 x.v.kind, .int .i64 x.v.n, .string ⟨x.v.s.toArray⟩, .slice sx nx cx] 49)).heap.size = w.heap.size + 1 := by simp
  have hB2 := alloc_below (w.alloc (.cells #[.int .i64 x.e, .int .i64 x.a, .int .i64 x.v.kind, .int .i64 x.v.n, .string ⟨x.v.s.toArray⟩, .slice sx nx cx] 49)) (.cells #[.int .i64 y.e, .int .i64 y.a, .int .i64 y.v.kind, .int .i64 y.v.n, .string ⟨y.v.s.toArray⟩, .slice sy ny cy] 49)
  have hby := Blk.new (w.alloc (.cells #[.int .i64 x.e, .int .i64 x.a, .int .i64 x.v.kind, .int .i64 x.v.n, .string ⟨x.v.s.toArray⟩, .slice sx nx cx] 49)) [.int .i64 y.e, .int .i64 y.a, .int .i64 y.v.kind, .int .i64 y.v.n, .string ⟨y.v.s.toArray⟩, .slice sy ny cy] 49 hs1.symm
  have hB := hB1.trans (hB2.mono hB1.size)
  have m0 := (hmb.below hB hmb.lt).cells.c1
  have hrun := (hm.kept hB).look h1 h2
  have hr := hR _ hB
  unfold oneB at hr
  clear hR hmb hm hB
  go_enter Try.func48, Try.ntmps48
  go_upto_region 1 with fail
  have hbx2 := hbx.below hB2 hbx.lt
  generalize (w.alloc (.cells #[.int .i64 x.e, .int .i64 x.a, .int .i64 x.v.kind, .int .i64 x.v.n, .string ⟨x.v.s.toArray⟩, .slice sx nx cx] 49)).alloc (.cells #[.int .i64 y.e, .int .i64 y.a, .int .i64 y.v.kind, .int .i64 y.v.n, .string ⟨y.v.s.toArray⟩, .slice sy ny cy] 49) = w2 at *
  obtain ⟨x0, x1, x2, x3, x4, x5⟩ := hbx2.cells.f6
  obtain ⟨y0, y1, y2, y3, y4, y5⟩ := hby.cells.f6
  generalize f x.a = at' at *
  obtain ⟨aid, aname, atype, amany, aunique, apart, aindex⟩ := at'
  simp only at hr hrun
  have hf3 : ∀ w', (Instr.field 24 (.agg #[.int .i64 aid, .string ⟨aname.toArray⟩, .int .i64 atype, .bool amany, .int .i64 aunique, .bool apart, .bool aindex]) 3).run Try.prog w' = .ok (.bool amany) w' := fun w' => by kernel_rfl
  have hf4 : ∀ w', (Instr.field 24 (.agg #[.int .i64 aid, .string ⟨aname.toArray⟩, .int .i64 atype, .bool amany, .int .i64 aunique, .bool apart, .bool aindex]) 4).run Try.prog w' = .ok (.int .i64 aunique) w' := fun w' => by kernel_rfl
  obtain ⟨xe, xa, ⟨xk, xn, xs⟩, xl⟩ := x
  obtain ⟨ye, ya, ⟨yk, yn, ys⟩, yl⟩ := y
  simp only at hr hrun h1 h2 x0 x1 x2 x3 x4 x5 y0 y1 y2 y3 y4 y5 ⊢
  clear hB1 hB2 hbx hby hbx2 hs1
  by_cases he : xe = ye
  · subst he
    have g1 : (xe == xe) = true := by simp
    rw [g1] at hr
    simp only [Bool.true_and] at hr
    go_wp2_with fail
    first | exact hr | exact fin hr rfl
  · have g1 : (xe == ye) = false := by simp [he]
    rw [g1] at hr
    simp only [Bool.false_and] at hr
    clear he
    go_wp2_with fail
    first | exact hr | exact fin hr rfl
set_option maxRecDepth 100000 in
set_option maxHeartbeats 2000000 in
theorem Holds5_any (x y : Ft) (sx sy : Option Addr) (nx cx ny cy mb b n : Nat) (f : Int → Attr) (w : World) (hmb : Blk w mb [.map (some b)] 67) (hm : MapA w b n f) (h1 : 0 ≤ x.a) (h2 : x.a < 9007199254740992) (R : Ending → World → Prop)
    (hR : ∀ w', Below w.heap.size w w' → R (.returned (.bool (uniqB f x y))) w') : Calls Try.prog 49 #[.agg #[.int .i64 x.e, .int .i64 x.a, .int .i64 x.v.kind, .int .i64 x.v.n, .string ⟨x.v.s.toArray⟩, .slice sx nx cx], .agg #[.int .i64 y.e, .int .i64 y.a, .int .i64 y.v.kind, .int .i64 y.v.n, .string ⟨y.v.s.toArray⟩, .slice sy ny cy], .pointer (some ⟨mb, 0, none⟩)] w R := by
  have hB1 := alloc_below w (.cells #[.int .i64 x.e, .int .i64 x.a, .int .i64 x.v.kind, .int .i64 x.v.n, .string ⟨x.v.s.toArray⟩, .slice sx nx cx] 49)
  have hbx := Blk.new w [.int .i64 x.e, .int .i64 x.a, .int .i64 x.v.kind, .int .i64 x.v.n, .string ⟨x.v.s.toArray⟩, .slice sx nx cx] 49 rfl
  have hs1 : (w.alloc (.cells #[.int .i64 x.e, .int .i64 x.a, .int .i64 x.v.kind, .int .i64 x.v.n, .string ⟨x.v.s.toArray⟩, .slice sx nx cx] 49)).heap.size = w.heap.size + 1 := by simp
  have hB2 := alloc_below (w.alloc (.cells #[.int .i64 x.e, .int .i64 x.a, .int .i64 x.v.kind, .int .i64 x.v.n, .string ⟨x.v.s.toArray⟩, .slice sx nx cx] 49)) (.cells #[.int .i64 y.e, .int .i64 y.a, .int .i64 y.v.kind, .int .i64 y.v.n, .string ⟨y.v.s.toArray⟩, .slice sy ny cy] 49)
  have hby := Blk.new (w.alloc (.cells #[.int .i64 x.e, .int .i64 x.a, .int .i64 x.v.kind, .int .i64 x.v.n, .string ⟨x.v.s.toArray⟩, .slice sx nx cx] 49)) [.int .i64 y.e, .int .i64 y.a, .int .i64 y.v.kind, .int .i64 y.v.n, .string ⟨y.v.s.toArray⟩, .slice sy ny cy] 49 hs1.symm
  have hB := hB1.trans (hB2.mono hB1.size)
  have m0 := (hmb.below hB hmb.lt).cells.c1
  have hrun := (hm.kept hB).look h1 h2
  have hr := hR _ hB
  unfold uniqB at hr
  clear hR hmb hm hB
  go_enter Try.func49, Try.ntmps49
  go_upto_region 1 with fail
  have hbx2 := hbx.below hB2 hbx.lt
  generalize (w.alloc (.cells #[.int .i64 x.e, .int .i64 x.a, .int .i64 x.v.kind, .int .i64 x.v.n, .string ⟨x.v.s.toArray⟩, .slice sx nx cx] 49)).alloc (.cells #[.int .i64 y.e, .int .i64 y.a, .int .i64 y.v.kind, .int .i64 y.v.n, .string ⟨y.v.s.toArray⟩, .slice sy ny cy] 49) = w2 at *
  obtain ⟨x0, x1, x2, x3, x4, x5⟩ := hbx2.cells.f6
  obtain ⟨y0, y1, y2, y3, y4, y5⟩ := hby.cells.f6
  generalize f x.a = at' at *
  obtain ⟨aid, aname, atype, amany, aunique, apart, aindex⟩ := at'
  simp only at hr hrun
  have hf3 : ∀ w', (Instr.field 24 (.agg #[.int .i64 aid, .string ⟨aname.toArray⟩, .int .i64 atype, .bool amany, .int .i64 aunique, .bool apart, .bool aindex]) 3).run Try.prog w' = .ok (.bool amany) w' := fun w' => by kernel_rfl
  have hf4 : ∀ w', (Instr.field 24 (.agg #[.int .i64 aid, .string ⟨aname.toArray⟩, .int .i64 atype, .bool amany, .int .i64 aunique, .bool apart, .bool aindex]) 4).run Try.prog w' = .ok (.int .i64 aunique) w' := fun w' => by kernel_rfl
  obtain ⟨xe, xa, ⟨xk, xn, xs⟩, xl⟩ := x
  obtain ⟨ye, ya, ⟨yk, yn, ys⟩, yl⟩ := y
  simp only at hr hrun h1 h2 x0 x1 x2 x3 x4 x5 y0 y1 y2 y3 y4 y5 ⊢
  clear hB1 hB2 hbx hby hbx2 hs1
  by_cases he : xe = ye
  · subst he
    have g1 : (xe != xe) = false := by simp
    rw [g1] at hr
    simp only [Bool.false_and] at hr
    go_wp2_with fail
    first | exact hr | exact fin hr rfl
  · have g1 : (xe != ye) = true := by simp [he]
    rw [g1] at hr
    clear he
    by_cases hv : (V.mk xk xn xs) = (V.mk yk yn ys)
    · injection hv with v1 v2 v3
      subst v1 v2 v3
      simp only [Bool.true_and, decide_true] at hr
      go_wp2_with fail
      first | exact hr | exact fin hr rfl
    · rw [decide_eq_false hv] at hr
      simp only [Bool.true_and, Bool.false_and] at hr
      have hbq : (xk == yk && (xn == yn && (xs == ys))) = false := by
        rw [Bool.eq_false_iff]
        intro h
        simp only [Bool.and_eq_true, beq_iff_eq] at h
        exact hv (by rw [h.1, h.2.1, h.2.2])
      clear hv
      go_wp2_with fail
      all_goals first | exact hr | exact fin hr rfl | exact absurd hbq (by simp; exact ⟨by assumption, by assumption, by assumption⟩)
/-- Is it no entity's name or type, or has the entity an attribute? -/
def hasB (attrs : List Attr) (x : Ft) : Bool := !((x.a == 1 || x.a == 2) && decide (10 ≤ x.e)) || (attrs.findIdx? (byID x.e)).isSome
def namedB (l : List Ft) (attrs : List Attr) : Bool := l.all (hasB attrs)
theorem named_no {l : List Ft} {attrs : List Attr} {k : Nat} {x : Ft} (hk : k < l.length) (hx : l.getD k default = x) (h : hasB attrs x = false) : namedB l attrs = false := by
  unfold namedB
  rw [List.all_eq_false]
  refine ⟨x, ?_, by simp [h]⟩
  rw [← hx, getD_at l _ k hk]
  exact List.getElem_mem hk
theorem named_yes {l : List Ft} {attrs : List Attr} (h : ∀ i, i < l.length → hasB attrs (l.getD i default) = true) : namedB l attrs = true := by
  unfold namedB
  rw [List.all_eq_true]
  intro x hx
  obtain ⟨i, hi, rfl⟩ := List.getElem_of_mem hx
  have := h i hi
  rwa [getD_at l _ i hi] at this
set_option maxRecDepth 100000 in
set_option maxHeartbeats 4000000 in
theorem named_any (lo hi lo2 hi2 : Nat) (l : List Ft) (attrs : List Attr) (v v2 : Value) (w : World) (hv : Fts lo hi w v l) (hhi : hi ≤ w.heap.size) (hv2 : Attrs lo2 hi2 w v2 attrs) (hhi2 : hi2 ≤ w.heap.size) (R : Ending → World → Prop)
    (hR : ∀ w', Below w.heap.size w w' → R (.returned (.bool (namedB l attrs))) w') : Calls Try.prog 46 #[v, v2] w R := by
  have HR := Lib.hid hR
  have Hv := Lib.hid hv
  have Hv2 := Lib.hid hv2
  obtain ⟨av, cv, rfl, hcl, hcm, -, -⟩ := hv.form
  obtain ⟨av2, cv2, rfl, -, -, -, -⟩ := hv2.form
  clear hR hv hv2
  go_enter Try.func46, Try.ntmps46
  go_wp2_with fail
  go_loopw [6, 7, 8, 11] (fun _ _ _ t11 wr => ∃ k : Nat, k ≤ l.length ∧ t11 = .int .i64 k ∧ (∀ i, i < k → hasB attrs (l.getD i default) = true) ∧ Below w.heap.size w wr) (fun _ _ _ t11 _ => l.length - (intOf t11).toNat)
  case atStart => exact ⟨0, Nat.zero_le _, rfl, fun i h => absurd h (Nat.not_lt_zero _), Below.refl _ _⟩
  case round =>
    obtain ⟨k, hk, rfl, hyes, hB⟩ := hrel
    obtain ⟨wo, ewo⟩ : ∃ x, x = wr := ⟨_, rfl⟩
    subst ewo
    have Hyes := Lib.hid hyes
    have HB := Lib.hid hB
    have hz := hB.size
    have kk0 : (0 : Int) ≤ (k : Int) := by omega
    clear hyes
    by_cases hlt : k < l.length
    · obtain ⟨ao', cap', e', -, -, -, hc⟩ := (Sl.below Hv.out ftE_loc hB hhi).form
      injection e' with e1 e2 e3
      subst e1 e3
      obtain ⟨b, off, rfl, hb1, hb2, hcc⟩ := hc k hlt
      obtain ⟨cs, _, hcs, sv, rfl, hsv⟩ := hcc k hlt
      obtain ⟨h0, h1, h2, h3, h4, h5⟩ := hcs.f6
      have kkl : (k : Int) < (l.length : Int) := by omega
      have Hx : Hid (l.getD k default = l[k]) := Lib.hid (getD_at l _ k hlt)
      obtain ⟨asp, csp, rfl, -, -, -, -⟩ := hsv.form
      clear hcc hcs hc hsv hB
      generalize l[k] = x at *
      generalize x.sp.length = nsp at *
      have hal := alloc_below wo (.cells #[.int .i64 x.e, .int .i64 x.a, .int .i64 x.v.kind, .int .i64 x.v.n, .string ⟨x.v.s.toArray⟩, .slice asp nsp csp] 49)
      have hbk := Blk.new wo [.int .i64 x.e, .int .i64 x.a, .int .i64 x.v.kind, .int .i64 x.v.n, .string ⟨x.v.s.toArray⟩, .slice asp nsp csp] 49 rfl
      go_upto_region 4 with fail
      generalize wo.alloc (.cells #[.int .i64 x.e, .int .i64 x.a, .int .i64 x.v.kind, .int .i64 x.v.n, .string ⟨x.v.s.toArray⟩, .slice asp nsp csp] 49) = wa at *
      obtain ⟨y0, y1, y2, y3, y4, y5⟩ := hbk.cells.f6
      have HBa := Lib.hid (HB.out.trans (hal.mono hz))
      have hbl := hbk.lt
      clear hal h0 h1 h2 h3 h4 h5
      by_cases n1 : x.a = 1
      · have g1 : (x.a != 1) = false := by simp [n1]
        by_cases he : x.e < 10
        · have Hn := Lib.hid n1
          clear n1
          have Hh : Hid (hasB attrs x = true) := Lib.hid (by unfold hasB; simp [show ¬ (10 ≤ x.e) by omega])
          go_wp2_with fail
          go_roundw
          case rel => exact ⟨k + 1, by omega, by go_num, fun i hi => by
            by_cases e : i = k
            · subst e; rw [Hx.out]; exact Hh.out
            · exact Hyes.out i (by omega), HBa.out⟩
          case measure => simp [intOf]; omega
        · have Hn := Lib.hid n1
          clear n1
          go_wp2_with fail
          refine ByID_any lo2 hi2 _ attrs x.e wa (Sl.below Hv2.out Attrs.loc HBa.out hhi2) (by have := HBa.out.size; omega) _ (fun w2 hB2 => ?_)
          have HB2 := Lib.hid (HBa.out.trans (hB2.mono HBa.out.size))
          have hbk2 := hbk.below hB2 hbl
          obtain ⟨z0, z1, z2, z3, z4, z5⟩ := hbk2.cells.f6
          clear hB2 hbk hbk2 y0 y1 y2 y3 y4 y5
          cases ho : attrs.findIdx? (byID x.e) with
          | none =>
            have hno : namedB l attrs = false := named_no hlt Hx.out (by unfold hasB; rw [ho]; simp [Hn.out, show 10 ≤ x.e by omega])
            have hr := HR.out
            rw [hno] at hr
            simp only [findA, Option.isSome_none, zeroA]
            clear ho hno
            have Hr := Lib.hid hr
            clear hr
            have hal2 := Lib.hid (HB2.out.trans ((alloc_below w2 (.cells #[.int .i64 0, .string ⟨#[]⟩, .int .i64 0, .bool false, .int .i64 0, .bool false, .bool false] 24)).mono HB2.out.size))
            go_wp2_with fail
            first | exact Hr.out _ hal2.out | exact fin (Hr.out _ hal2.out) rfl
          | some i =>
            have Hh : Hid (hasB attrs x = true) := Lib.hid (by unfold hasB; rw [ho]; simp)
            simp only [findA, Option.isSome_some]
            clear ho
            generalize attrs.getD i zeroA = y at *
            have hal2 := Lib.hid (HB2.out.trans ((alloc_below w2 (.cells #[.int .i64 y.id, .string ⟨y.name.toArray⟩, .int .i64 y.type, .bool y.many, .int .i64 y.unique, .bool y.part, .bool y.index] 24)).mono HB2.out.size))
            go_wp2_with fail
            go_roundw
            case rel => exact ⟨k + 1, by omega, by go_num, fun i hi => by
              by_cases e : i = k
              · subst e; rw [Hx.out]; exact Hh.out
              · exact Hyes.out i (by omega), hal2.out⟩
            case measure => simp [intOf]; omega
      · have g1 : (x.a != 1) = true := by simp [n1]
        by_cases n2 : x.a = 2
        · have g2 : (x.a != 2) = false := by simp [n2]
          by_cases he : x.e < 10
          · have Hn := Lib.hid n2
            clear n1 n2
            have Hh : Hid (hasB attrs x = true) := Lib.hid (by unfold hasB; simp [show ¬ (10 ≤ x.e) by omega])
            go_wp2_with fail
            go_roundw
            case rel => exact ⟨k + 1, by omega, by go_num, fun i hi => by
              by_cases e : i = k
              · subst e; rw [Hx.out]; exact Hh.out
              · exact Hyes.out i (by omega), HBa.out⟩
            case measure => simp [intOf]; omega
          · have Hn := Lib.hid n2
            clear n1 n2
            go_wp2_with fail
            refine ByID_any lo2 hi2 _ attrs x.e wa (Sl.below Hv2.out Attrs.loc HBa.out hhi2) (by have := HBa.out.size; omega) _ (fun w2 hB2 => ?_)
            have HB2 := Lib.hid (HBa.out.trans (hB2.mono HBa.out.size))
            have hbk2 := hbk.below hB2 hbl
            obtain ⟨z0, z1, z2, z3, z4, z5⟩ := hbk2.cells.f6
            clear hB2 hbk hbk2 y0 y1 y2 y3 y4 y5
            cases ho : attrs.findIdx? (byID x.e) with
            | none =>
              have hno : namedB l attrs = false := named_no hlt Hx.out (by unfold hasB; rw [ho]; simp [Hn.out, show 10 ≤ x.e by omega])
              have hr := HR.out
              rw [hno] at hr
              simp only [findA, Option.isSome_none, zeroA]
              clear ho hno
              have Hr := Lib.hid hr
              clear hr
              have hal2 := Lib.hid (HB2.out.trans ((alloc_below w2 (.cells #[.int .i64 0, .string ⟨#[]⟩, .int .i64 0, .bool false, .int .i64 0, .bool false, .bool false] 24)).mono HB2.out.size))
              go_wp2_with fail
              first | exact Hr.out _ hal2.out | exact fin (Hr.out _ hal2.out) rfl
            | some i =>
              have Hh : Hid (hasB attrs x = true) := Lib.hid (by unfold hasB; rw [ho]; simp)
              simp only [findA, Option.isSome_some]
              clear ho
              generalize attrs.getD i zeroA = y at *
              have hal2 := Lib.hid (HB2.out.trans ((alloc_below w2 (.cells #[.int .i64 y.id, .string ⟨y.name.toArray⟩, .int .i64 y.type, .bool y.many, .int .i64 y.unique, .bool y.part, .bool y.index] 24)).mono HB2.out.size))
              go_wp2_with fail
              go_roundw
              case rel => exact ⟨k + 1, by omega, by go_num, fun i hi => by
                by_cases e : i = k
                · subst e; rw [Hx.out]; exact Hh.out
                · exact Hyes.out i (by omega), hal2.out⟩
              case measure => simp [intOf]; omega
        · have g2 : (x.a != 2) = true := by simp [n2]
          have Hn := Lib.hid (And.intro n1 n2)
          clear n1 n2
          have Hh : Hid (hasB attrs x = true) := Lib.hid (by unfold hasB; simp [Hn.out.1, Hn.out.2])
          go_wp2_with fail
          go_roundw
          case rel => exact ⟨k + 1, by omega, by go_num, fun i hi => by
            by_cases e : i = k
            · subst e; rw [Hx.out]; exact Hh.out
            · exact Hyes.out i (by omega), HBa.out⟩
          case measure => simp [intOf]; omega
    · obtain rfl : k = l.length := by omega
      have hr := HR.out wo HB.out
      rw [named_yes Hyes.out] at hr
      clear hB
      go_wp2_with fail
      first | exact hr | exact fin hr rfl
end Go.Proofs.Ytkcpanaojehgiaa
