/- schema.made: the attribute that an entity's facts make. (Printed by schd.py.) -/
import Derived.Test.YtkcpanaojehgiaaSchC
namespace Go.Proofs.Ytkcpanaojehgiaa
open Go.RowKit
set_option linter.unusedVariables false
set_option linter.unusedSimpArgs false

/-- A block of seven cells, all of them written. -/
def set7 (w : World) (b : Nat) (v0 v1 v2 v3 v4 v5 v6 : Value) : World :=
  ((((((w.setCell ⟨b, 0, none⟩ v0).setCell ⟨b, 1, none⟩ v1).setCell ⟨b, 2, none⟩ v2).setCell ⟨b, 3, none⟩ v3).setCell ⟨b, 4, none⟩ v4).setCell ⟨b, 5, none⟩ v5).setCell ⟨b, 6, none⟩ v6
theorem Blk.set7 {w : World} {b : Nat} {t : TypeId} {x0 x1 x2 x3 x4 x5 x6 : Value} (h : Blk w b [x0, x1, x2, x3, x4, x5, x6] t) (v0 v1 v2 v3 v4 v5 v6 : Value) : Blk (set7 w b v0 v1 v2 v3 v4 v5 v6) b [v0, v1, v2, v3, v4, v5, v6] t :=
  ((((((h.set 0 v0).set 1 v1).set 2 v2).set 3 v3).set 4 v4).set 5 v5).set 6 v6
theorem below_set7 {B : Nat} {w w' : World} (h : Below B w w') {b : Nat} (hb : B ≤ b) (v0 v1 v2 v3 v4 v5 v6 : Value) : Below B w (set7 w' b v0 v1 v2 v3 v4 v5 v6) :=
  ((((((h.setCell (p := ⟨b, 0, none⟩) hb v0).setCell (p := ⟨b, 1, none⟩) hb v1).setCell (p := ⟨b, 2, none⟩) hb v2).setCell (p := ⟨b, 3, none⟩) hb v3).setCell (p := ⟨b, 4, none⟩) hb v4).setCell (p := ⟨b, 5, none⟩) hb v5).setCell (p := ⟨b, 6, none⟩) hb v6
theorem Blk.runAttr {w : World} {b : Nat} {t : TypeId} {v0 v1 v2 v3 v4 v5 v6 : Value} (h : Blk w b [v0, v1, v2, v3, v4, v5, v6] t) : (loadVar 24 ⟨b, 0, none⟩).run Try.prog w = .ok (.agg #[v0, v1, v2, v3, v4, v5, v6]) w := h.cells.runVar (fun w => by kernel_rfl) (fun w => by kernel_rfl)
/-- What an entity's facts make, so far. -/
structure Mk where
  a : Attr
  names : Nat
  types : Nat
def Ft.yes (x : Ft) : Bool := x.v.kind == 2 && x.v.n == 1
def mkStep (s : Mk) (x : Ft) : Mk :=
  if x.a = 1 then ⟨{ s.a with name := x.v.s }, if x.v.kind = 7 then s.names + 1 else 2, s.types⟩
  else if x.a = 2 then ⟨{ s.a with type := x.v.n }, s.names, if x.v.kind = 1 ∧ 1 ≤ x.v.n ∧ x.v.n ≤ 7 then s.types + 1 else 2⟩
  else if x.a = 3 then ⟨{ s.a with many := s.a.many || x.yes }, s.names, s.types⟩
  else if x.a = 5 then ⟨{ s.a with part := s.a.part || x.yes }, s.names, s.types⟩
  else if x.a = 6 then ⟨{ s.a with index := s.a.index || x.yes }, s.names, s.types⟩
  else if x.a = 4 then (if x.v.kind = 1 ∧ 1 ≤ x.v.n ∧ x.v.n ≤ 2 then ⟨{ s.a with unique := if s.a.unique < x.v.n then x.v.n else s.a.unique }, s.names, s.types⟩ else s)
  else s
def mkInit (e : Int) : Mk := ⟨⟨e, [], 0, false, 0, false, false⟩, 0, 0⟩
def madeS (e : Int) (g : List Ft) : Mk := g.foldl mkStep (mkInit e)
def Mk.ok (s : Mk) : Bool := decide (10 ≤ s.a.id) && s.names == 1 && s.types == 1
theorem madeS_step (e : Int) (g : List Ft) (k : Nat) (h : k < g.length) : madeS e (g.take (k + 1)) = mkStep (madeS e (g.take k)) g[k] := by
  unfold madeS
  rw [List.take_succ_eq_append_getElem h, List.foldl_append]
  rfl
theorem mkStep_bd (s : Mk) (x : Ft) {k : Nat} (h : s.names ≤ k + 1 ∧ s.types ≤ k + 1) : (mkStep s x).names ≤ k + 1 + 1 ∧ (mkStep s x).types ≤ k + 1 + 1 := by
  unfold mkStep
  split
  · simp only; split <;> omega
  split
  · simp only; split <;> omega
  split
  · simp only; omega
  split
  · simp only; omega
  split
  · simp only; omega
  split
  · split
    · simp only; omega
    · omega
  · omega
set_option maxRecDepth 1000000 in
set_option maxHeartbeats 16000000 in
theorem made_any (lo hi : Nat) (g : List Ft) (v : Value) (w : World) (hv : Fts lo hi w v g) (hne : 0 < g.length) (hhi : hi ≤ w.heap.size) (hlen : g.length ≤ 1000000000000000) (R : Ending → World → Prop)
    (hR : ∀ w', Below w.heap.size w w' → R (.returned (.tuple #[.agg #[.int .i64 (madeS (g.getD 0 default).e g).a.id, .string ⟨(madeS (g.getD 0 default).e g).a.name.toArray⟩, .int .i64 (madeS (g.getD 0 default).e g).a.type, .bool (madeS (g.getD 0 default).e g).a.many, .int .i64 (madeS (g.getD 0 default).e g).a.unique, .bool (madeS (g.getD 0 default).e g).a.part, .bool (madeS (g.getD 0 default).e g).a.index], .bool (madeS (g.getD 0 default).e g).ok])) w') :
    Calls Try.prog 59 #[v] w R := by
  have Hv := Lib.hid hv
  have HR := Lib.hid hR
  obtain ⟨ao, cap, rfl, hcl, hcm, -, hc⟩ := hv.form
  obtain ⟨b, off, rfl, hb1, hb2, hcc⟩ := hc 0 hne
  obtain ⟨cs, _, hcs, sv, rfl, hsv⟩ := hcc 0 hne
  obtain ⟨h0, -⟩ := hcs.f6
  rw [Nat.zero_mul, Nat.add_zero] at h0
  obtain ⟨e, he⟩ : ∃ e, e = g[0].e := ⟨_, rfl⟩
  rw [← he] at h0
  have He : Hid ((g.getD 0 default).e = e) := Lib.hid (by rw [getD_at g _ 0 hne, he])
  have hbw : b < w.heap.size := by omega
  have g0 : (0 : Int) < (g.length : Int) := by omega
  rw [He.out] at HR
  clear hv hR hc hcc hcs hsv he
  have hBa := alloc_below w (.cells #[.int .i64 0, .string ⟨#[]⟩, .int .i64 0, .bool false, .int .i64 0, .bool false, .bool false] 24)
  have hza := Blk.new w [.int .i64 0, .string ⟨#[]⟩, .int .i64 0, .bool false, .int .i64 0, .bool false, .bool false] 24 rfl
  have hsz : (w.alloc (.cells #[.int .i64 0, .string ⟨#[]⟩, .int .i64 0, .bool false, .int .i64 0, .bool false, .bool false] 24)).heap.size = w.heap.size + 1 := by simp
  have hBb := alloc_below (w.alloc (.cells #[.int .i64 0, .string ⟨#[]⟩, .int .i64 0, .bool false, .int .i64 0, .bool false, .bool false] 24)) (.cells #[.int .i64 e, .string ⟨#[]⟩, .int .i64 0, .bool false, .int .i64 0, .bool false, .bool false] 24)
  have hzb := Blk.new (w.alloc (.cells #[.int .i64 0, .string ⟨#[]⟩, .int .i64 0, .bool false, .int .i64 0, .bool false, .bool false] 24)) [.int .i64 e, .string ⟨#[]⟩, .int .i64 0, .bool false, .int .i64 0, .bool false, .bool false] 24 hsz.symm
  go_enter Try.func59, Try.ntmps59
  go_upto_region 2 with fail
  have hza2 := Lib.hid (hza.below hBb hza.lt)
  have hzb2 := Lib.hid hzb
  have HB := Lib.hid (hBa.trans (hBb.mono hBa.size))
  generalize (w.alloc (.cells #[.int .i64 0, .string ⟨#[]⟩, .int .i64 0, .bool false, .int .i64 0, .bool false, .bool false] 24)).alloc (.cells #[.int .i64 e, .string ⟨#[]⟩, .int .i64 0, .bool false, .int .i64 0, .bool false, .bool false] 24) = w2 at *
  clear hza hzb hBa hBb h0 hsz
  go_wp2_with fail
  go_loopw [5, 6, 8, 9, 17] (fun t5 t6 _ _ t17 wr => ∃ (k : Nat) (st : Mk), k ≤ g.length ∧ st = madeS e (g.take k) ∧ t17 = .int .i64 k ∧ t5 = .int .i64 (st.names : Int) ∧ t6 = .int .i64 (st.types : Int) ∧ (st.names ≤ k + 1 ∧ st.types ≤ k + 1) ∧ Below w.heap.size w wr ∧ Blk wr w.heap.size [.int .i64 0, .string ⟨#[]⟩, .int .i64 0, .bool false, .int .i64 0, .bool false, .bool false] 24 ∧ Blk wr (w.heap.size + 1) st.a.enc 24) (fun _ _ _ _ t17 _ => g.length - (intOf t17).toNat)
  case atStart => exact ⟨0, mkInit e, Nat.zero_le _, rfl, rfl, rfl, rfl, ⟨Nat.zero_le _, Nat.zero_le _⟩, HB.out, hza2.out, hzb2.out⟩
  case round =>
    obtain ⟨k, st, hk, hst, rfl, rfl, rfl, hbd, hB, hz0, hz1⟩ := hrel
    obtain ⟨wo, ewo⟩ : ∃ x, x = wr := ⟨_, rfl⟩
    subst ewo
    have Hst := Lib.hid hst
    have HBr := Lib.hid hB
    have Hz0 := Lib.hid hz0
    have hz := hB.size
    clear hst hz0
    by_cases hlt : k < g.length
    · obtain ⟨ao', cap', e', -, -, -, hc⟩ := (Sl.below Hv.out ftE_loc hB hhi).form
      injection e' with e1 e2 e3
      subst e1 e3
      obtain ⟨b', off', eb, hb1', hb2', hcc⟩ := hc k hlt
      injection eb with eb
      injection eb with eb eo
      subst eb eo
      obtain ⟨cs, _, hcs, sv, rfl, hsv⟩ := hcc k hlt
      obtain ⟨ax, cx, rfl, -, -, -, -⟩ := hsv.form
      obtain ⟨h0, h1, h2, h3, h4, h5⟩ := hcs.f6
      have hbo : b < wo.heap.size := by omega
      have kk0 : (0 : Int) ≤ (k : Int) := by omega
      have kkl : (k : Int) < (g.length : Int) := by omega
      have Hn : Hid (mkStep st g[k] = madeS e (g.take (k + 1))) := Lib.hid (by rw [madeS_step e g k hlt, ← Hst.out])
      have Hbd := Lib.hid (mkStep_bd st g[k] hbd)
      have n9 : (st.names : Int) + 1 ≤ 9223372036854775807 := by omega
      have t9 : (st.types : Int) + 1 ≤ 9223372036854775807 := by omega
      have n0 : (0 : Int) ≤ (st.names : Int) := by omega
      have t0 : (0 : Int) ≤ (st.types : Int) := by omega
      clear hcs hB hc hcc hsv hbd
      generalize hx : g[k] = x at *
      clear hx
      have hal := alloc_below wo (.cells #[.int .i64 x.e, .int .i64 x.a, .int .i64 x.v.kind, .int .i64 x.v.n, .string ⟨x.v.s.toArray⟩, .slice ax x.sp.length cx] 49)
      have hbk := Blk.new wo [.int .i64 x.e, .int .i64 x.a, .int .i64 x.v.kind, .int .i64 x.v.n, .string ⟨x.v.s.toArray⟩, .slice ax x.sp.length cx] 49 rfl
      go_upto_region 6 with fail
      generalize wo.alloc (.cells #[.int .i64 x.e, .int .i64 x.a, .int .i64 x.v.kind, .int .i64 x.v.n, .string ⟨x.v.s.toArray⟩, .slice ax x.sp.length cx] 49) = wa at *
      obtain ⟨y0, y1, y2, y3, y4, y5⟩ := hbk.cells.f6
      have hz2 := hz1.below hal hz1.lt
      have HBa := Lib.hid (HBr.out.trans (hal.mono hz))
      have Hz0a := Lib.hid (Hz0.out.below hal Hz0.out.lt)
      have f1 := hz2.free
      have hne1 : ¬ w.heap.size + 1 = wo.heap.size := by have := hz1.lt; omega
      clear hal h0 h1 h2 h3 h4 h5 Hz0 hz1 HBr hbk
      have Hz2 := Lib.hid hz2
      obtain ⟨⟨aid, aname, atype, amany, aunique, apart, aindex⟩, nn, nt⟩ := st
      obtain ⟨a0, a1, a2, a3, a4, a5, a6⟩ := CellsAt.c7 (show CellsAt wa (w.heap.size + 1) 0 [.int .i64 aid, .string ⟨aname.toArray⟩, .int .i64 atype, .bool amany, .int .i64 aunique, .bool apart, .bool aindex] from hz2.cells)
      simp only at n9 t9 n0 t0
      clear hz2
      go_cut [9] from 18 to 30 (fun t9 wx => t9 = .bool x.yes ∧ wa = wx)
      case first =>
        by_cases hk2 : x.v.kind = 2
        · by_cases hn1 : x.v.n = 1
          · go_wp2_with fail
            go_meet
            exact ⟨by simp [Ft.yes, hk2, hn1], rfl⟩
          · go_wp2_with fail
            go_meet
            exact ⟨by simp [Ft.yes, hn1], rfl⟩
        · go_wp2_with fail
          go_meet
          exact ⟨by simp [Ft.yes, hk2], rfl⟩
      case rest =>
        obtain ⟨rfl, rfl⟩ := hcut
        by_cases q1 : x.a = 1
        ·
          by_cases r1 : x.v.kind = 7
          ·
            have hq : mkStep ⟨⟨aid, aname, atype, amany, aunique, apart, aindex⟩, nn, nt⟩ x = ⟨⟨aid, x.v.s, atype, amany, aunique, apart, aindex⟩, nn + 1, nt⟩ := by simp [mkStep, q1, r1]
            rw [hq] at Hn Hbd
            clear hq
            go_wp2_with fail
            go_roundw
            case rel => exact ⟨k + 1, ⟨⟨aid, x.v.s, atype, amany, aunique, apart, aindex⟩, nn + 1, nt⟩, by omega, Hn.out, by go_num, by go_num, by go_num, Hbd.out, HBa.out.setCell (p := ⟨w.heap.size + 1, 1, none⟩) (by simp) _, Hz0a.out.other (p := ⟨w.heap.size + 1, 1, none⟩) (by simp) _, Hz2.out.set 1 _⟩
            case measure => simp [intOf]; omega
          ·
            have r1z : (x.v.kind == 7) = false := by simpa using r1
            have r1y : (x.v.kind != 7) = true := by simpa using r1
            have hq : mkStep ⟨⟨aid, aname, atype, amany, aunique, apart, aindex⟩, nn, nt⟩ x = ⟨⟨aid, x.v.s, atype, amany, aunique, apart, aindex⟩, 2, nt⟩ := by simp [mkStep, q1, r1]
            rw [hq] at Hn Hbd
            clear hq
            go_wp2_with fail
            go_roundw
            case rel => exact ⟨k + 1, ⟨⟨aid, x.v.s, atype, amany, aunique, apart, aindex⟩, 2, nt⟩, by omega, Hn.out, by go_num, by go_num, by go_num, Hbd.out, HBa.out.setCell (p := ⟨w.heap.size + 1, 1, none⟩) (by simp) _, Hz0a.out.other (p := ⟨w.heap.size + 1, 1, none⟩) (by simp) _, Hz2.out.set 1 _⟩
            case measure => simp [intOf]; omega
        ·
          have q1z : (x.a == 1) = false := by simpa using q1
          have q1y : (x.a != 1) = true := by simpa using q1
          by_cases q2 : x.a = 2
          ·
            by_cases r1 : x.v.kind = 1
            ·
              by_cases r2 : x.v.n < 1
              ·
                have r4 : ¬ 1 ≤ x.v.n := by omega
                have hq : mkStep ⟨⟨aid, aname, atype, amany, aunique, apart, aindex⟩, nn, nt⟩ x = ⟨⟨aid, aname, x.v.n, amany, aunique, apart, aindex⟩, nn, 2⟩ := by simp [mkStep, q2, r1, r4]
                rw [hq] at Hn Hbd
                clear hq
                go_wp2_with fail
                go_roundw
                case rel => exact ⟨k + 1, ⟨⟨aid, aname, x.v.n, amany, aunique, apart, aindex⟩, nn, 2⟩, by omega, Hn.out, by go_num, by go_num, by go_num, Hbd.out, HBa.out.setCell (p := ⟨w.heap.size + 1, 2, none⟩) (by simp) _, Hz0a.out.other (p := ⟨w.heap.size + 1, 2, none⟩) (by simp) _, Hz2.out.set 2 _⟩
                case measure => simp [intOf]; omega
              ·
                by_cases r3 : 7 < x.v.n
                ·
                  have r4 : ¬ x.v.n ≤ 7 := by omega
                  have hq : mkStep ⟨⟨aid, aname, atype, amany, aunique, apart, aindex⟩, nn, nt⟩ x = ⟨⟨aid, aname, x.v.n, amany, aunique, apart, aindex⟩, nn, 2⟩ := by simp [mkStep, q2, r1, r4]
                  rw [hq] at Hn Hbd
                  clear hq
                  go_wp2_with fail
                  go_roundw
                  case rel => exact ⟨k + 1, ⟨⟨aid, aname, x.v.n, amany, aunique, apart, aindex⟩, nn, 2⟩, by omega, Hn.out, by go_num, by go_num, by go_num, Hbd.out, HBa.out.setCell (p := ⟨w.heap.size + 1, 2, none⟩) (by simp) _, Hz0a.out.other (p := ⟨w.heap.size + 1, 2, none⟩) (by simp) _, Hz2.out.set 2 _⟩
                  case measure => simp [intOf]; omega
                ·
                  have r4 : x.v.n ≤ 7 := by omega
                  have r5 : 1 ≤ x.v.n := by omega
                  have hq : mkStep ⟨⟨aid, aname, atype, amany, aunique, apart, aindex⟩, nn, nt⟩ x = ⟨⟨aid, aname, x.v.n, amany, aunique, apart, aindex⟩, nn, nt + 1⟩ := by simp [mkStep, q2, r1, r4, r5]
                  rw [hq] at Hn Hbd
                  clear hq
                  go_wp2_with fail
                  go_roundw
                  case rel => exact ⟨k + 1, ⟨⟨aid, aname, x.v.n, amany, aunique, apart, aindex⟩, nn, nt + 1⟩, by omega, Hn.out, by go_num, by go_num, by go_num, Hbd.out, HBa.out.setCell (p := ⟨w.heap.size + 1, 2, none⟩) (by simp) _, Hz0a.out.other (p := ⟨w.heap.size + 1, 2, none⟩) (by simp) _, Hz2.out.set 2 _⟩
                  case measure => simp [intOf]; omega
            ·
              have r1z : (x.v.kind == 1) = false := by simpa using r1
              have r1y : (x.v.kind != 1) = true := by simpa using r1
              have hq : mkStep ⟨⟨aid, aname, atype, amany, aunique, apart, aindex⟩, nn, nt⟩ x = ⟨⟨aid, aname, x.v.n, amany, aunique, apart, aindex⟩, nn, 2⟩ := by simp [mkStep, q2, r1]
              rw [hq] at Hn Hbd
              clear hq
              go_wp2_with fail
              go_roundw
              case rel => exact ⟨k + 1, ⟨⟨aid, aname, x.v.n, amany, aunique, apart, aindex⟩, nn, 2⟩, by omega, Hn.out, by go_num, by go_num, by go_num, Hbd.out, HBa.out.setCell (p := ⟨w.heap.size + 1, 2, none⟩) (by simp) _, Hz0a.out.other (p := ⟨w.heap.size + 1, 2, none⟩) (by simp) _, Hz2.out.set 2 _⟩
              case measure => simp [intOf]; omega
          ·
            have q2z : (x.a == 2) = false := by simpa using q2
            have q2y : (x.a != 2) = true := by simpa using q2
            by_cases q3 : x.a = 3
            ·
              cases amany
              ·
                have hq : mkStep ⟨⟨aid, aname, atype, false, aunique, apart, aindex⟩, nn, nt⟩ x = ⟨⟨aid, aname, atype, x.yes, aunique, apart, aindex⟩, nn, nt⟩ := by simp [mkStep, q3]
                rw [hq] at Hn Hbd
                clear hq
                go_wp2_with fail
                go_roundw
                case rel => exact ⟨k + 1, ⟨⟨aid, aname, atype, x.yes, aunique, apart, aindex⟩, nn, nt⟩, by omega, Hn.out, by go_num, by go_num, by go_num, Hbd.out, HBa.out.setCell (p := ⟨w.heap.size + 1, 3, none⟩) (by simp) _, Hz0a.out.other (p := ⟨w.heap.size + 1, 3, none⟩) (by simp) _, Hz2.out.set 3 _⟩
                case measure => simp [intOf]; omega
              ·
                have hq : mkStep ⟨⟨aid, aname, atype, true, aunique, apart, aindex⟩, nn, nt⟩ x = ⟨⟨aid, aname, atype, true, aunique, apart, aindex⟩, nn, nt⟩ := by simp [mkStep, q3]
                rw [hq] at Hn Hbd
                clear hq
                go_wp2_with fail
                go_roundw
                case rel => exact ⟨k + 1, ⟨⟨aid, aname, atype, true, aunique, apart, aindex⟩, nn, nt⟩, by omega, Hn.out, by go_num, by go_num, by go_num, Hbd.out, HBa.out.setCell (p := ⟨w.heap.size + 1, 3, none⟩) (by simp) _, Hz0a.out.other (p := ⟨w.heap.size + 1, 3, none⟩) (by simp) _, Hz2.out.set 3 _⟩
                case measure => simp [intOf]; omega
            ·
              have q3z : (x.a == 3) = false := by simpa using q3
              have q3y : (x.a != 3) = true := by simpa using q3
              by_cases q5 : x.a = 5
              ·
                cases apart
                ·
                  have hq : mkStep ⟨⟨aid, aname, atype, amany, aunique, false, aindex⟩, nn, nt⟩ x = ⟨⟨aid, aname, atype, amany, aunique, x.yes, aindex⟩, nn, nt⟩ := by simp [mkStep, q5]
                  rw [hq] at Hn Hbd
                  clear hq
                  go_wp2_with fail
                  go_roundw
                  case rel => exact ⟨k + 1, ⟨⟨aid, aname, atype, amany, aunique, x.yes, aindex⟩, nn, nt⟩, by omega, Hn.out, by go_num, by go_num, by go_num, Hbd.out, HBa.out.setCell (p := ⟨w.heap.size + 1, 5, none⟩) (by simp) _, Hz0a.out.other (p := ⟨w.heap.size + 1, 5, none⟩) (by simp) _, Hz2.out.set 5 _⟩
                  case measure => simp [intOf]; omega
                ·
                  have hq : mkStep ⟨⟨aid, aname, atype, amany, aunique, true, aindex⟩, nn, nt⟩ x = ⟨⟨aid, aname, atype, amany, aunique, true, aindex⟩, nn, nt⟩ := by simp [mkStep, q5]
                  rw [hq] at Hn Hbd
                  clear hq
                  go_wp2_with fail
                  go_roundw
                  case rel => exact ⟨k + 1, ⟨⟨aid, aname, atype, amany, aunique, true, aindex⟩, nn, nt⟩, by omega, Hn.out, by go_num, by go_num, by go_num, Hbd.out, HBa.out.setCell (p := ⟨w.heap.size + 1, 5, none⟩) (by simp) _, Hz0a.out.other (p := ⟨w.heap.size + 1, 5, none⟩) (by simp) _, Hz2.out.set 5 _⟩
                  case measure => simp [intOf]; omega
              ·
                have q5z : (x.a == 5) = false := by simpa using q5
                have q5y : (x.a != 5) = true := by simpa using q5
                by_cases q6 : x.a = 6
                ·
                  cases aindex
                  ·
                    have hq : mkStep ⟨⟨aid, aname, atype, amany, aunique, apart, false⟩, nn, nt⟩ x = ⟨⟨aid, aname, atype, amany, aunique, apart, x.yes⟩, nn, nt⟩ := by simp [mkStep, q6]
                    rw [hq] at Hn Hbd
                    clear hq
                    go_wp2_with fail
                    go_roundw
                    case rel => exact ⟨k + 1, ⟨⟨aid, aname, atype, amany, aunique, apart, x.yes⟩, nn, nt⟩, by omega, Hn.out, by go_num, by go_num, by go_num, Hbd.out, HBa.out.setCell (p := ⟨w.heap.size + 1, 6, none⟩) (by simp) _, Hz0a.out.other (p := ⟨w.heap.size + 1, 6, none⟩) (by simp) _, Hz2.out.set 6 _⟩
                    case measure => simp [intOf]; omega
                  ·
                    have hq : mkStep ⟨⟨aid, aname, atype, amany, aunique, apart, true⟩, nn, nt⟩ x = ⟨⟨aid, aname, atype, amany, aunique, apart, true⟩, nn, nt⟩ := by simp [mkStep, q6]
                    rw [hq] at Hn Hbd
                    clear hq
                    go_wp2_with fail
                    go_roundw
                    case rel => exact ⟨k + 1, ⟨⟨aid, aname, atype, amany, aunique, apart, true⟩, nn, nt⟩, by omega, Hn.out, by go_num, by go_num, by go_num, Hbd.out, HBa.out.setCell (p := ⟨w.heap.size + 1, 6, none⟩) (by simp) _, Hz0a.out.other (p := ⟨w.heap.size + 1, 6, none⟩) (by simp) _, Hz2.out.set 6 _⟩
                    case measure => simp [intOf]; omega
                ·
                  have q6z : (x.a == 6) = false := by simpa using q6
                  have q6y : (x.a != 6) = true := by simpa using q6
                  by_cases q4 : x.a = 4
                  ·
                    by_cases r1 : x.v.kind = 1
                    ·
                      by_cases r2 : x.v.n < 1
                      ·
                        have r4 : ¬ 1 ≤ x.v.n := by omega
                        have hq : mkStep ⟨⟨aid, aname, atype, amany, aunique, apart, aindex⟩, nn, nt⟩ x = ⟨⟨aid, aname, atype, amany, aunique, apart, aindex⟩, nn, nt⟩ := by simp [mkStep, q4, r1, r4]
                        rw [hq] at Hn Hbd
                        clear hq
                        go_wp2_with fail
                        go_roundw
                        case rel => exact ⟨k + 1, ⟨⟨aid, aname, atype, amany, aunique, apart, aindex⟩, nn, nt⟩, by omega, Hn.out, by go_num, by go_num, by go_num, Hbd.out, HBa.out, Hz0a.out, Hz2.out⟩
                        case measure => simp [intOf]; omega
                      ·
                        by_cases r3 : 2 < x.v.n
                        ·
                          have r4 : ¬ x.v.n ≤ 2 := by omega
                          have r5 : 1 ≤ x.v.n := by omega
                          have hq : mkStep ⟨⟨aid, aname, atype, amany, aunique, apart, aindex⟩, nn, nt⟩ x = ⟨⟨aid, aname, atype, amany, aunique, apart, aindex⟩, nn, nt⟩ := by simp [mkStep, q4, r1, r4]
                          rw [hq] at Hn Hbd
                          clear hq
                          go_wp2_with fail
                          go_roundw
                          case rel => exact ⟨k + 1, ⟨⟨aid, aname, atype, amany, aunique, apart, aindex⟩, nn, nt⟩, by omega, Hn.out, by go_num, by go_num, by go_num, Hbd.out, HBa.out, Hz0a.out, Hz2.out⟩
                          case measure => simp [intOf]; omega
                        ·
                          have r4 : x.v.n ≤ 2 := by omega
                          have r5 : 1 ≤ x.v.n := by omega
                          have hq : mkStep ⟨⟨aid, aname, atype, amany, aunique, apart, aindex⟩, nn, nt⟩ x = ⟨⟨aid, aname, atype, amany, (if aunique < x.v.n then x.v.n else aunique), apart, aindex⟩, nn, nt⟩ := by simp [mkStep, q4, r1, r4, r5]
                          rw [hq] at Hn Hbd
                          clear hq
                          go_wp2_with fail
                          go_roundw
                          case rel => exact ⟨k + 1, ⟨⟨aid, aname, atype, amany, (if aunique < x.v.n then x.v.n else aunique), apart, aindex⟩, nn, nt⟩, by omega, Hn.out, by go_num, by go_num, by go_num, Hbd.out, HBa.out.setCell (p := ⟨w.heap.size + 1, 4, none⟩) (by simp) _, Hz0a.out.other (p := ⟨w.heap.size + 1, 4, none⟩) (by simp) _, Hz2.out.set 4 _⟩
                          case measure => simp [intOf]; omega
                    ·
                      have r1z : (x.v.kind == 1) = false := by simpa using r1
                      have r1y : (x.v.kind != 1) = true := by simpa using r1
                      have hq : mkStep ⟨⟨aid, aname, atype, amany, aunique, apart, aindex⟩, nn, nt⟩ x = ⟨⟨aid, aname, atype, amany, aunique, apart, aindex⟩, nn, nt⟩ := by simp [mkStep, q4, r1]
                      rw [hq] at Hn Hbd
                      clear hq
                      go_wp2_with fail
                      go_roundw
                      case rel => exact ⟨k + 1, ⟨⟨aid, aname, atype, amany, aunique, apart, aindex⟩, nn, nt⟩, by omega, Hn.out, by go_num, by go_num, by go_num, Hbd.out, HBa.out, Hz0a.out, Hz2.out⟩
                      case measure => simp [intOf]; omega
                  ·
                    have q4z : (x.a == 4) = false := by simpa using q4
                    have q4y : (x.a != 4) = true := by simpa using q4
                    have hq : mkStep ⟨⟨aid, aname, atype, amany, aunique, apart, aindex⟩, nn, nt⟩ x = ⟨⟨aid, aname, atype, amany, aunique, apart, aindex⟩, nn, nt⟩ := by simp [mkStep, q1, q2, q3, q4, q5, q6]
                    rw [hq] at Hn Hbd
                    clear hq
                    go_wp2_with fail
                    go_roundw
                    case rel => exact ⟨k + 1, ⟨⟨aid, aname, atype, amany, aunique, apart, aindex⟩, nn, nt⟩, by omega, Hn.out, by go_num, by go_num, by go_num, Hbd.out, HBa.out, Hz0a.out, Hz2.out⟩
                    case measure => simp [intOf]; omega
    · obtain rfl : k = g.length := by omega
      rw [List.take_length] at Hst
      have HRs := HR.out
      rw [← Hst.out] at HRs
      have HRs := Lib.hid HRs
      have f1 := Hz0.out.free
      obtain ⟨z0, z1, z2, z3, z4, z5, z6⟩ := Hz0.out.cells.c7
      have Hz0b := Hz0
      clear hB Hst Hz0 HR
      obtain ⟨⟨aid, aname, atype, amany, aunique, apart, aindex⟩, nn, nt⟩ := st
      obtain ⟨a0, a1, a2, a3, a4, a5, a6⟩ := CellsAt.c7 (show CellsAt wo (w.heap.size + 1) 0 [.int .i64 aid, .string ⟨aname.toArray⟩, .int .i64 atype, .bool amany, .int .i64 aunique, .bool apart, .bool aindex] from hz1.cells)
      clear hz1
      by_cases i1 : 10 ≤ aid
      · by_cases i2 : nn = 1
        · by_cases i3 : nt = 1
          · have i2' : (nn : Int) = 1 := by omega
            have i3' : (nt : Int) = 1 := by omega
            have hok : Mk.ok ⟨⟨aid, aname, atype, amany, aunique, apart, aindex⟩, nn, nt⟩ = true := by simp [Mk.ok, i1, i2, i3]
            have hr := HRs.out (set7 wo w.heap.size (.int .i64 aid) (.string ⟨aname.toArray⟩) (.int .i64 atype) (.bool amany) (.int .i64 aunique) (.bool apart) (.bool aindex)) (below_set7 HBr.out (Nat.le_refl _) _ _ _ _ _ _ _)
            rw [hok] at hr
            have hrv := (Blk.set7 Hz0b.out (.int .i64 aid) (.string ⟨aname.toArray⟩) (.int .i64 atype) (.bool amany) (.int .i64 aunique) (.bool apart) (.bool aindex)).runAttr
            unfold set7 at hr hrv
            have Hr := Lib.hid hr
            have Hrv := Lib.hid hrv
            clear hr hrv hok
            go_wp2_with fail
            exact ret_cell_tmp rfl rfl Hrv.out rfl rfl Hr.out
          · have i2' : (nn : Int) = 1 := by omega
            have i3' : ((nt : Int) == 1) = false := by simpa using (show ¬ (nt : Int) = 1 by omega)
            have hok : Mk.ok ⟨⟨aid, aname, atype, amany, aunique, apart, aindex⟩, nn, nt⟩ = false := by simp [Mk.ok, i3]
            have hr := HRs.out (set7 wo w.heap.size (.int .i64 aid) (.string ⟨aname.toArray⟩) (.int .i64 atype) (.bool amany) (.int .i64 aunique) (.bool apart) (.bool aindex)) (below_set7 HBr.out (Nat.le_refl _) _ _ _ _ _ _ _)
            rw [hok] at hr
            have hrv := (Blk.set7 Hz0b.out (.int .i64 aid) (.string ⟨aname.toArray⟩) (.int .i64 atype) (.bool amany) (.int .i64 aunique) (.bool apart) (.bool aindex)).runAttr
            unfold set7 at hr hrv
            have Hr := Lib.hid hr
            have Hrv := Lib.hid hrv
            clear hr hrv hok
            go_wp2_with fail
            exact ret_cell_tmp rfl rfl Hrv.out rfl rfl Hr.out
        · have i2' : ((nn : Int) == 1) = false := by simpa using (show ¬ (nn : Int) = 1 by omega)
          have hok : Mk.ok ⟨⟨aid, aname, atype, amany, aunique, apart, aindex⟩, nn, nt⟩ = false := by simp [Mk.ok, i2]
          have hr := HRs.out (set7 wo w.heap.size (.int .i64 aid) (.string ⟨aname.toArray⟩) (.int .i64 atype) (.bool amany) (.int .i64 aunique) (.bool apart) (.bool aindex)) (below_set7 HBr.out (Nat.le_refl _) _ _ _ _ _ _ _)
          rw [hok] at hr
          have hrv := (Blk.set7 Hz0b.out (.int .i64 aid) (.string ⟨aname.toArray⟩) (.int .i64 atype) (.bool amany) (.int .i64 aunique) (.bool apart) (.bool aindex)).runAttr
          unfold set7 at hr hrv
          have Hr := Lib.hid hr
          have Hrv := Lib.hid hrv
          clear hr hrv hok
          go_wp2_with fail
          exact ret_cell_tmp rfl rfl Hrv.out rfl rfl Hr.out
      · have i1' : aid < 10 := by omega
        have hok : Mk.ok ⟨⟨aid, aname, atype, amany, aunique, apart, aindex⟩, nn, nt⟩ = false := by simp [Mk.ok, i1, i1']
        have hr := HRs.out (set7 wo w.heap.size (.int .i64 aid) (.string ⟨aname.toArray⟩) (.int .i64 atype) (.bool amany) (.int .i64 aunique) (.bool apart) (.bool aindex)) (below_set7 HBr.out (Nat.le_refl _) _ _ _ _ _ _ _)
        rw [hok] at hr
        have hrv := (Blk.set7 Hz0b.out (.int .i64 aid) (.string ⟨aname.toArray⟩) (.int .i64 atype) (.bool amany) (.int .i64 aunique) (.bool apart) (.bool aindex)).runAttr
        unfold set7 at hr hrv
        have Hr := Lib.hid hr
        have Hrv := Lib.hid hrv
        clear hr hrv hok
        go_wp2_with fail
        exact ret_cell_tmp rfl rfl Hrv.out rfl rfl Hr.out
end Go.Proofs.Ytkcpanaojehgiaa
