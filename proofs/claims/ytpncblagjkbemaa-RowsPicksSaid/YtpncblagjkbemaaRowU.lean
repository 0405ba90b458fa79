/- May a relation be? -/
import Derived.Test.YtpncblagjkbemaaRowAt
namespace Go.Proofs.Ytpncblagjkbemaa
open Go.RowKit
set_option linter.unusedVariables false
set_option linter.unusedSimpArgs false

/-- A row of a relation may stand where it stands. -/
def mayAt (cols : List S) (l : List (List V)) (i : Nat) : Bool := (l.getD i []).length == cols.length && (i == 0 || decide (cmpR (l.getD (i - 1) []) (l.getD i []) < 0))
def mayRel (cols : List S) (l : List (List V)) : Bool := onceB cols && decide (l.length ≤ 100000) && (List.range l.length).all (mayAt cols l)
theorem mayRel_yes {cols : List S} {l : List (List V)} (h1 : onceB cols = true) (h2 : l.length ≤ 100000) (h3 : ∀ i, i < l.length → mayAt cols l i = true) : mayRel cols l = true := by
  unfold mayRel
  rw [h1, decide_eq_true h2, Bool.true_and, Bool.true_and, List.all_eq_true]
  exact fun i hi => h3 i (List.mem_range.1 hi)
theorem mayRel_no {cols : List S} {l : List (List V)} {i : Nat} (hi : i < l.length) (h : mayAt cols l i = false) : mayRel cols l = false := by
  unfold mayRel
  rw [show (List.range l.length).all (mayAt cols l) = false by rw [List.all_eq_false]; exact ⟨i, List.mem_range.2 hi, by simp [h]⟩]
  simp
set_option maxRecDepth 100000 in
set_option maxHeartbeats 4000000 in
theorem May_any (lo hi lc hc : Nat) (cols : List S) (ac : Option Addr) (cc : Nat) (l : List (List V)) (lv : Value) (w : World) (hcols : Strs lc hc w (.slice ac cols.length cc) cols) (hhc : hc ≤ w.heap.size) (hv : Rws lo hi w lv l) (hhi : hi ≤ w.heap.size) (R : Ending → World → Prop)
    (hR : ∀ w', Below w.heap.size w w' → R (.returned (.bool (mayRel cols l))) w') : Calls Try.prog 38 #[.agg #[.slice ac cols.length cc, lv]] w R := by
  have HR := Lib.hid hR
  have Hv := Lib.hid hv
  have Hc := Lib.hid hcols
  obtain ⟨av, cv2, rfl, -, -, -, -⟩ := hv.form
  have hll := hv.len
  clear hR hv hcols
  go_enter Try.func38, Try.ntmps38
  go_upto_region 1 with fail
  have hBa := (Below.refl w.heap.size w).alloc (Nat.le_refl _) (.cells #[.slice ac cols.length cc, .slice av l.length cv2] 34)
  have hba := Blk.new w [.slice ac cols.length cc, .slice av l.length cv2] 34 rfl
  generalize w.alloc (.cells #[.slice ac cols.length cc, .slice av l.length cv2] 34) = w1 at *
  have HBa := Lib.hid hBa
  have Hba := Lib.hid hba
  have hz1 := hBa.size
  have hbl := hba.lt
  obtain ⟨d0, d1⟩ := hba.cells.c2
  simp only [Nat.zero_add] at d1
  clear hBa hba
  go_wp2_with fail
  refine once_any lc hc cols _ _ (Sl.below Hc.out Strs.loc HBa.out hhc) _ ?_
  cases ho : onceB cols
  · have hr := HR.out w1 HBa.out
    rw [show mayRel cols l = false by unfold mayRel; rw [ho]; rfl] at hr
    clear ho
    go_wp2_with fail
    first | exact hr | exact fin hr rfl
  have Ho := Lib.hid ho
  clear ho
  by_cases hgt : 100000 < l.length
  · have hr := HR.out w1 HBa.out
    rw [show mayRel cols l = false by unfold mayRel; rw [decide_eq_false (by omega)]; simp] at hr
    have c1 : (100000 : Int) < (l.length : Int) := by omega
    go_wp2_with fail
    first | exact hr | exact fin hr rfl
  have c1 : ¬ (100000 : Int) < (l.length : Int) := by omega
  go_wp2_with fail
  go_loopw [18] (fun t18 wr => ∃ k : Nat, k ≤ l.length ∧ t18 = .int .i64 k ∧ (∀ i, i < k → mayAt cols l i = true) ∧ Below w1.heap.size w1 wr) (fun t18 _ => l.length - (intOf t18).toNat)
  case atStart => exact ⟨0, Nat.zero_le _, rfl, fun i hi => absurd hi (Nat.not_lt_zero _), Below.refl _ _⟩
  case round =>
    obtain ⟨k, hk, rfl, hok, hB⟩ := hrel
    obtain ⟨wo, ewo⟩ : ∃ x, x = wr := ⟨_, rfl⟩
    subst ewo
    clear d0 d1
    have Hok := Lib.hid hok
    have HB := Lib.hid hB
    have HBw := Lib.hid (HBa.out.trans (hB.mono hz1))
    have hz := HBw.out.size
    have kk0 : (0 : Int) ≤ (k : Int) := by omega
    obtain ⟨d0, d1⟩ := (Hba.out.below hB hbl).cells.c2
    simp only [Nat.zero_add] at d1
    clear hB hok
    by_cases hlt : k < l.length
    · have kkl : (k : Int) < (l.length : Int) := by omega
      have Hvl := Lib.hid (Sl.below Hv.out rowE_loc HBw.out hhi)
      obtain ⟨b4, o4, rfl, hb4, hrow4⟩ := Rws.at Hvl.out (by omega) (by omega)
      obtain ⟨p2, c2, g2, r2⟩ := hrow4 k hlt
      have G2 := g2 wo (Below.refl _ _)
      have R2 := Lib.hid r2
      have hxl := r2.len
      by_cases hne : l[k].length = cols.length
      · have He : Hid (l[k].length = cols.length) := Lib.hid hne
        have c3 : ((l[k].length : Int) != (cols.length : Int)) = false := by simp; omega
        by_cases hk0 : k = 0
        · have Hk0 : Hid (k = 0) := Lib.hid hk0
          have hnx : Hid (∀ i, i < k + 1 → mayAt cols l i = true) := Lib.hid (fun i hi => by
            obtain rfl : i = 0 := by omega
            unfold mayAt
            rw [getDS l _ 0 (by omega)]
            have := He.out
            subst hk0
            simp [this])
          have c4 : ¬ (0 : Int) < (k : Int) := by omega
          clear hrow4 g2 r2 hne hk0
          generalize l[k] = xb at *
          go_wp2_with fail
          go_roundw
          case rel => exact ⟨k + 1, by omega, by go_num, hnx.out, HB.out⟩
          case measure => simp [intOf]; omega
        · obtain ⟨j, ej⟩ : ∃ j, j = k - 1 := ⟨_, rfl⟩
          have hjl : j < l.length := by omega
          have hkj : (k : Int) - 1 = (j : Int) := by omega
          have jj0 : (0 : Int) ≤ (j : Int) := by omega
          have jjl : (j : Int) < (l.length : Int) := by omega
          have c4 : (0 : Int) < (k : Int) := by omega
          obtain ⟨p1, c1', g1, r1⟩ := hrow4 j hjl
          have G1 := g1 wo (Below.refl _ _)
          have R1 := Lib.hid r1
          have Hat : Hid (mayAt cols l k = decide (cmpR l[j] l[k] < 0)) := Lib.hid (by
            unfold mayAt
            rw [getDS l _ k hlt, getDS l _ (k - 1) (by omega), He.out]
            subst ej
            simp [hk0])
          have Hno : Hid (mayAt cols l k = false → mayRel cols l = false) := Lib.hid (mayRel_no hlt)
          have Hnx : Hid (mayAt cols l k = true → ∀ i, i < k + 1 → mayAt cols l i = true) := Lib.hid (fun h i hi => by
            by_cases e : i = k
            · rw [e]; exact h
            · exact Hok.out i (by omega))
          clear hrow4 g2 r2 g1 r1 hne ej hk0
          generalize l[k] = xb at *
          generalize l[j] = xa at *
          go_wp2_with fail
          refine rowsCompareB_any lo hi lo hi xa xb _ _ wo R1.out R2.out (by omega) (by omega) _ (fun w5 hB5 => ?_)
          have HB5 := Lib.hid (HB.out.trans (hB5.mono (by have := HB.out.size; omega)))
          have HB5w := Lib.hid (HBw.out.trans (hB5.mono hz))
          clear hB5
          by_cases hc0 : cmpR xa xb < 0
          · have hnx := Lib.hid (Hnx.out (by rw [Hat.out]; exact decide_eq_true hc0))
            have c5 : ¬ (0 : Int) ≤ cmpR xa xb := by omega
            clear hc0 Hno Hnx
            generalize cmpR xa xb = cv at *
            go_wp2_with fail
            go_roundw
            case rel => exact ⟨k + 1, by omega, by go_num, hnx.out, HB5.out⟩
            case measure => simp [intOf]; omega
          · have hr := HR.out w5 HB5w.out
            rw [Hno.out (by rw [Hat.out]; exact decide_eq_false hc0)] at hr
            have c5 : (0 : Int) ≤ cmpR xa xb := by omega
            clear hc0 Hno Hnx
            generalize cmpR xa xb = cv at *
            go_wp2_with fail
            first | exact hr | exact fin hr rfl
      · have hr := HR.out wo HBw.out
        rw [mayRel_no hlt (by unfold mayAt; rw [getDS l _ k hlt]; simp [hne])] at hr
        have c3 : ((l[k].length : Int) != (cols.length : Int)) = true := by simp; omega
        clear hrow4 g2 r2 hne
        generalize l[k] = xb at *
        go_wp2_with fail
        first | exact hr | exact fin hr rfl
    · have llt : ¬ (k : Int) < (l.length : Int) := by omega
      have hr := HR.out wo HBw.out
      rw [mayRel_yes Ho.out (by omega) (fun i hi => Hok.out i (by omega))] at hr
      go_wp2_with fail
      first | exact hr | exact fin hr rfl
end Go.Proofs.Ytpncblagjkbemaa
