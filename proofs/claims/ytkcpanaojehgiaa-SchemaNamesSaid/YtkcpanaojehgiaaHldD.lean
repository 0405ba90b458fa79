/- Do two facts clash? -/
import Derived.Test.YtkcpanaojehgiaaHldC
namespace Go.Proofs.Ytkcpanaojehgiaa
open Go.RowKit Go.ChangeMaps Go.WideMaps Go.Maps
set_option linter.unusedVariables false
set_option linter.unusedSimpArgs false

def pairB (q : Ft → Ft → Bool) (x y : Ft) : Bool := x.a == y.a && q x y && !(sharedL x.sp y.sp).isEmpty
def clashB (l : List Ft) (q : Ft → Ft → Bool) : Bool := (List.range l.length).any fun i => (List.range i).any fun j => pairB q (l.getD i default) (l.getD j default)
theorem clash_no {l : List Ft} {q : Ft → Ft → Bool} (h : ∀ i, i < l.length → ∀ j, j < i → pairB q (l.getD i default) (l.getD j default) = false) : clashB l q = false := by
  unfold clashB
  rw [List.any_eq_false]
  intro i hi
  rw [Bool.not_eq_true, List.any_eq_false]
  intro j hj
  rw [h i (List.mem_range.1 hi) j (List.mem_range.1 hj)]
  simp
theorem clash_yes {l : List Ft} {q : Ft → Ft → Bool} {i j : Nat} (hi : i < l.length) (hj : j < i) (h : pairB q (l.getD i default) (l.getD j default) = true) : clashB l q = true := by
  unfold clashB
  rw [List.any_eq_true]
  refine ⟨i, List.mem_range.2 hi, ?_⟩
  rw [List.any_eq_true]
  exact ⟨j, List.mem_range.2 hj, h⟩
set_option maxRecDepth 100000 in
set_option maxHeartbeats 8000000 in
theorem clash_any (lo hi : Nat) (l : List Ft) (v : Value) (g : FuncId) (capt : Array Value) (q : Ft → Ft → Bool) (w : World) (hv : Fts lo hi w v l) (hhi : hi ≤ w.heap.size)
    (he : ∀ args w, (callFunc g args).run Try.prog w = .ok (.enter g args) w)
    (hq : ∀ x ∈ l, ∀ y ∈ l, ∀ (sx sy : Option Addr) (nx cx ny cy : Nat) w' R, Below w.heap.size w w' → (∀ w'', Below w'.heap.size w' w'' → R (.returned (.bool (q x y))) w'') →
      Calls Try.prog g (#[.agg #[.int .i64 x.e, .int .i64 x.a, .int .i64 x.v.kind, .int .i64 x.v.n, .string ⟨x.v.s.toArray⟩, .slice sx nx cx], .agg #[.int .i64 y.e, .int .i64 y.a, .int .i64 y.v.kind, .int .i64 y.v.n, .string ⟨y.v.s.toArray⟩, .slice sy ny cy]] ++ capt) w' R)
    (hsp : ∀ x ∈ l, setB x.sp = true ∧ x.sp.length ≤ 2000000000000)
    (R : Ending → World → Prop) (hR : ∀ w', Below w.heap.size w w' → R (.returned (.bool (clashB l q))) w') :
    Calls Try.prog 47 #[v, .func (.func g) #[] capt] w R := by
  have HR := Lib.hid hR
  have Hv := Lib.hid hv
  have Hq := Lib.hid hq
  have Hsp := Lib.hid hsp
  obtain ⟨av, cv, rfl, hcl, hcm, -, -⟩ := hv.form
  clear hR hv hq hsp
  go_enter Try.func47, Try.ntmps47
  go_wp2_with fail
  go_loopw [5, 6, 8, 11] (fun _ _ _ t11 wr => ∃ k : Nat, k ≤ l.length ∧ t11 = .int .i64 k ∧ (∀ i, i < k → ∀ j, j < i → pairB q (l.getD i default) (l.getD j default) = false) ∧ Below w.heap.size w wr) (fun _ _ _ t11 _ => l.length - (intOf t11).toNat)
  case atStart => exact ⟨0, Nat.zero_le _, rfl, fun i h => absurd h (Nat.not_lt_zero _), Below.refl _ _⟩
  case round =>
    obtain ⟨k, hk, rfl, hno, hB⟩ := hrel
    obtain ⟨wo, ewo⟩ : ∃ x, x = wr := ⟨_, rfl⟩
    subst ewo
    have Hno := Lib.hid hno
    have HB := Lib.hid hB
    have hz := hB.size
    have kk0 : (0 : Int) ≤ (k : Int) := by omega
    clear hno
    by_cases hlt : k < l.length
    · obtain ⟨ao', cap', e', -, -, -, hc⟩ := (Sl.below Hv.out ftE_loc hB hhi).form
      injection e' with e1 e2 e3
      subst e1 e3
      obtain ⟨b, off, rfl, hb1, hb2, hcc⟩ := hc k hlt
      obtain ⟨cs, _, hcs, sv, rfl, hsv⟩ := hcc k hlt
      obtain ⟨h0, h1, h2, h3, h4, h5⟩ := hcs.f6
      have kkl : (k : Int) < (l.length : Int) := by omega
      have Hx : Hid (l.getD k default = l[k]) := Lib.hid (getD_at l _ k hlt)
      have Hxm : Hid (l[k] ∈ l) := Lib.hid (List.getElem_mem hlt)
      have Hsv := Lib.hid hsv
      obtain ⟨asp, csp, rfl, -, -, -, -⟩ := hsv.form
      clear hcc hcs hc hsv hB
      generalize l[k] = x at *
      have hal := alloc_below wo (.cells #[.int .i64 x.e, .int .i64 x.a, .int .i64 x.v.kind, .int .i64 x.v.n, .string ⟨x.v.s.toArray⟩, .slice asp x.sp.length csp] 49)
      have hbk := Blk.new wo [.int .i64 x.e, .int .i64 x.a, .int .i64 x.v.kind, .int .i64 x.v.n, .string ⟨x.v.s.toArray⟩, .slice asp x.sp.length csp] 49 rfl
      have HBa := Lib.hid (HB.out.trans (hal.mono hz))
      have Hwo := Lib.hid (hal.mono hz)
      obtain ⟨v1, hrun, hvt⟩ := Sl.upTo Hv.out 29 Try.underlying29 size_Ft k (by omega)
      have hlk : (l.take k).length = k := by rw [List.length_take]; omega
      have Hvt := Lib.hid hvt
      obtain ⟨at1, c1, rfl, hc1, hc2, -, -⟩ := hvt.form
      rw [hlk] at hrun hc1
      have Hlk := Lib.hid hlk
      clear hvt hlk
      go_upto_region 4 with fail
      generalize wo.alloc (.cells #[.int .i64 x.e, .int .i64 x.a, .int .i64 x.v.kind, .int .i64 x.v.n, .string ⟨x.v.s.toArray⟩, .slice asp x.sp.length csp] 49) = wa at *
      have Hbk := Lib.hid hbk
      have hbl := hbk.lt
      clear hal hbk h0 h1 h2 h3 h4 h5
      go_step3
      go_wp2_with fail
      go_step3
      go_wp2_with fail
      go_loopw [8, 20] (fun _ t20 wr => ∃ j : Nat, j ≤ k ∧ t20 = .int .i64 j ∧ (∀ i, i < j → pairB q x (l.getD i default) = false) ∧ Below wa.heap.size wa wr) (fun _ t20 _ => k - (intOf t20).toNat)
      case atStart => exact ⟨0, Nat.zero_le _, rfl, fun i h => absurd h (Nat.not_lt_zero _), Below.refl _ _⟩
      case round =>
        obtain ⟨j, hj, rfl, hno2, hB2⟩ := hrel
        obtain ⟨wi, ewi⟩ : ∃ x, x = wr := ⟨_, rfl⟩
        subst ewi
        have Hno2 := Lib.hid hno2
        have HB2 := Lib.hid hB2
        have hz2 := hB2.size
        have HBi := Lib.hid (HBa.out.trans (hB2.mono HBa.out.size))
        have hzi := HBi.out.size
        have jj0 : (0 : Int) ≤ (j : Int) := by omega
        have Hbk2 := Lib.hid (Hbk.out.below hB2 hbl)
        obtain ⟨y0, y1, y2, y3, y4, y5⟩ := Hbk2.out.cells.f6
        clear hno2 hB2
        by_cases hjl : j < k
        · have hjt : j < (l.take k).length := by rw [Hlk.out]; exact hjl
          obtain ⟨ao', cap', e', -, -, -, hc⟩ := (Sl.below Hvt.out ftE_loc HBi.out hhi).form
          injection e' with e1 e2 e3
          subst e1 e3
          obtain ⟨b2, off2, rfl, hb3, hb4, hcc⟩ := hc j hjt
          obtain ⟨cs, _, hcs, sv, rfl, hsv⟩ := hcc j hjt
          have ely : (l.take k)[j] = l[j] := by rw [List.getElem_take]
          rw [ely] at hcs hsv
          obtain ⟨z0, z1, z2, z3, z4, z5⟩ := hcs.f6
          have jjk : (j : Int) < (k : Int) := by omega
          have Hy : Hid (l.getD j default = l[j]) := Lib.hid (getD_at l _ j (by omega))
          have Hym : Hid (l[j] ∈ l) := Lib.hid (List.getElem_mem (by omega))
          have Hsy := Lib.hid hsv
          generalize l[j] = y at *
          obtain ⟨bsp, dsp, rfl, -, -, -, -⟩ := hsv.form
          clear hcc hcs hc hsv ely
          have hal2 := alloc_below wi (.cells #[.int .i64 y.e, .int .i64 y.a, .int .i64 y.v.kind, .int .i64 y.v.n, .string ⟨y.v.s.toArray⟩, .slice bsp y.sp.length dsp] 49)
          have hbk3 := Blk.new wi [.int .i64 y.e, .int .i64 y.a, .int .i64 y.v.kind, .int .i64 y.v.n, .string ⟨y.v.s.toArray⟩, .slice bsp y.sp.length dsp] 49 rfl
          have Hbk4 := Lib.hid (Hbk2.out.below hal2 (Nat.lt_of_lt_of_le hbl hz2))
          have HBj := Lib.hid (HBi.out.trans (hal2.mono hzi))
          have hBij := Lib.hid (hal2.mono hzi)
          have Hjw := Lib.hid (HB2.out.trans (hal2.mono hz2))
          clear y0 y1 y2 y3 y4 y5
          go_upto_region 7 with fail
          generalize wi.alloc (.cells #[.int .i64 y.e, .int .i64 y.a, .int .i64 y.v.kind, .int .i64 y.v.n, .string ⟨y.v.s.toArray⟩, .slice bsp y.sp.length dsp] 49) = wj at *
          obtain ⟨y0, y1, y2, y3, y4, y5⟩ := Hbk4.out.cells.f6
          obtain ⟨z0, z1, z2, z3, z4, z5⟩ := hbk3.cells.f6
          have Hbk3 := Lib.hid hbk3
          have hzj := HBj.out.size
          have hzja := Hjw.out.size
          have hyl := hbk3.lt
          clear hal2 hbk3
          by_cases hxa : x.a = y.a
          · have g1 : (x.a != y.a) = false := by simp [hxa]
            have Hxa := Lib.hid hxa
            clear hxa
            go_wp2_with fail
            refine Hq.out x Hxm.out y Hym.out _ _ _ _ _ _ wj _ HBj.out (fun w2 hB2 => ?_)
            have HB3 := Lib.hid (HBj.out.trans (hB2.mono hzj))
            have Hjw3 := Lib.hid (Hjw.out.trans (hB2.mono hzja))
            have Hx3 := Lib.hid (Hbk4.out.below hB2 (by omega))
            have Hy3 := Lib.hid (Hbk3.out.below hB2 hyl)
            have hzx := hB2.size
            have hB23 := Lib.hid hB2
            clear hB2 y0 y1 y2 y3 y4 y5 z0 z1 z2 z3 z4 z5
            obtain ⟨y0, y1, y2, y3, y4, y5⟩ := Hx3.out.cells.f6
            obtain ⟨z0, z1, z2, z3, z4, z5⟩ := Hy3.out.cells.f6
            cases hqq : q x y
            · have Hpb : Hid (pairB q x y = false) := Lib.hid (by unfold pairB; rw [hqq]; simp)
              clear hqq
              go_wp2_with fail
              go_roundw
              case rel => exact ⟨j + 1, by omega, by go_num, fun i hi => by
                by_cases e : i = j
                · subst e; rw [Hy.out]; exact Hpb.out
                · exact Hno2.out i (by omega), Hjw3.out⟩
              case measure => simp [intOf]; omega
            · have Hqq := Lib.hid hqq
              clear hqq
              go_wp2_with fail
              refine meet_any lo hi x y _ _ w2 (Sl.below Hsv.out Sp.loc (Hwo.out.trans (Hjw3.out.mono HBa.out.size)) hhi) (Sl.below Hsy.out Sp.loc (hBij.out.trans (hB23.out.mono hzj)) hhi) (by omega) (Hsp.out x Hxm.out).2 (Hsp.out y Hym.out).2 (Hsp.out x Hxm.out).1 (Hsp.out y Hym.out).1 _ (fun w3 hB3 => ?_)
              have HB4 := Lib.hid (HB3.out.trans (hB3.mono HB3.out.size))
              have Hjw4 := Lib.hid (Hjw3.out.trans (hB3.mono Hjw3.out.size))
              clear hB3
              cases hmm : (sharedL x.sp y.sp).isEmpty
              · have hr := HR.out w3 HB4.out
                rw [clash_yes hlt hjl (by rw [Hx.out, Hy.out]; unfold pairB; rw [Hqq.out, hmm, Hxa.out]; simp)] at hr
                clear hmm
                go_wp2_with fail
                first | exact hr | exact fin hr rfl
              · have Hpb : Hid (pairB q x y = false) := Lib.hid (by unfold pairB; rw [hmm]; simp)
                clear hmm
                go_wp2_with fail
                go_roundw
                case rel => exact ⟨j + 1, by omega, by go_num, fun i hi => by
                  by_cases e : i = j
                  · subst e; rw [Hy.out]; exact Hpb.out
                  · exact Hno2.out i (by omega), Hjw4.out⟩
                case measure => simp [intOf]; omega
          · have g1 : (x.a != y.a) = true := by simp [hxa]
            have Hpb : Hid (pairB q x y = false) := Lib.hid (by unfold pairB; rw [show (x.a == y.a) = false by simp [hxa]]; simp)
            clear hxa
            go_wp2_with fail
            go_roundw
            case rel => exact ⟨j + 1, by omega, by go_num, fun i hi => by
              by_cases e : i = j
              · subst e; rw [Hy.out]; exact Hpb.out
              · exact Hno2.out i (by omega), Hjw.out⟩
            case measure => simp [intOf]; omega
        · obtain rfl : j = k := by omega
          have Hall := Lib.hid (fun i (hi : i < j + 1) => (by
            by_cases e : i = j
            · subst e; rw [Hx.out]; exact Hno2.out
            · exact Hno.out i (by omega) : ∀ m, m < i → pairB q (l.getD i default) (l.getD m default) = false))
          go_wp2_with fail
          simp only [Exit.noGoto]
          go_wp2_with fail
          go_roundw
          case rel => exact ⟨j + 1, by omega, by go_num, Hall.out, HBi.out⟩
          case measure => simp [intOf]; omega
    · obtain rfl : k = l.length := by omega
      have hr := HR.out wo HB.out
      rw [clash_no Hno.out] at hr
      clear hB
      go_wp2_with fail
      first | exact hr | exact fin hr rfl
end Go.Proofs.Ytkcpanaojehgiaa
