/- The document's relation of rows: Of. -/
import Derived.Test.YtpncblagjkbemaaRowJ
namespace Go.Proofs.Ytpncblagjkbemaa
open Go.RowKit
set_option linter.unusedVariables false
set_option linter.unusedSimpArgs false

set_option maxRecDepth 100000 in
set_option maxHeartbeats 4000000 in
theorem refOf_any (lo hi lc hc : Nat) (cols : List S) (ac : Option Addr) (cc : Nat) (l : List (List V)) (lv : Value) (w : World) (hcols : Strs lc hc w (.slice ac cols.length cc) cols) (hhc : hc ≤ w.heap.size) (hv : Rws lo hi w lv l) (hhi : hi ≤ w.heap.size) (hlen : l.length ≤ 1000000000000) (hrl : ∀ x ∈ l, x.length ≤ 4000000000000) (hrs : ∀ x ∈ l, ∀ a ∈ x, a.s.length ≤ 9223372036854775807) (R : Ending → World → Prop)
    (hbad : ofErr cols l ≠ 0 → ∀ w', Below w.heap.size w w' → R (.returned (.tuple #[.agg #[.slice none 0 0, .slice none 0 0], .int .i64 (ofErr cols l)])) w')
    (hok : ofErr cols l = 0 → ∀ w' lv2, Below w.heap.size w w' → Rws w.heap.size w'.heap.size w' lv2 (relCanon l) → R (.returned (.tuple #[.agg #[.slice ac cols.length cc, lv2], .int .i64 0])) w') :
    Calls Try.prog 27 #[.slice ac cols.length cc, lv] w R := by
  have Hbad := Lib.hid hbad
  have Hok := Lib.hid hok
  have Hv := Lib.hid hv
  have Hc := Lib.hid hcols
  have Hrl := Lib.hid hrl
  have Hrs := Lib.hid hrs
  obtain ⟨av, cv, rfl, -, -, -, -⟩ := hv.form
  clear hbad hok hv hrl hrs hcols
  have hB0 := alloc_below w (.cells #[.slice none 0 0, .slice none 0 0] 53)
  have hb0 := Blk.new w [.slice none 0 0, .slice none 0 0] 53 rfl
  go_enter Try.func27, Try.ntmps27
  go_upto_region 1 with fail
  generalize w.alloc (.cells #[.slice none 0 0, .slice none 0 0] 53) = w0 at *
  have HB0 := Lib.hid hB0
  have hz0 := hB0.size
  have hb0l := hb0.lt
  have Hb0 := Lib.hid hb0
  obtain ⟨d0, d1⟩ := hb0.cells.c2
  have f0 := hb0.free 0
  have f1 := hb0.free 1
  simp only [Nat.zero_add] at d1
  have Hrv := Lib.hid (((hb0.set 0 (.slice none 0 0)).set 1 (.slice none 0 0)).cells.runVar (P := Try.prog) (t := 53) (fun _ => by kernel_rfl) (fun _ => by kernel_rfl))
  have HBs := Lib.hid ((hB0.setCell (p := ⟨w.heap.size, 0, none⟩) (Nat.le_refl _) (.slice none 0 0)).setCell (p := ⟨w.heap.size, 1, none⟩) (Nat.le_refl _) (.slice none 0 0))
  clear hB0 hb0
  go_wp2_with fail
  refine refOnce_any lc hc cols _ w0 (Sl.below Hc.out Strs.loc HB0.out hhc) _ ?_
  cases honce : onceB cols
  · have he : ofErr cols l = 2 := by unfold ofErr fitB; rw [honce]; rfl
    have hr := Hbad.out (by rw [he]; decide) _ HBs.out
    rw [he] at hr
    have Hr := Lib.hid hr
    clear honce he hr
    go_wp2_with fail
    exact ret_cell_tmp rfl rfl Hrv.out rfl rfl Hr.out
  · have Hon := Lib.hid honce
    clear honce
    go_wp2_with fail
    go_loop [7] (fun t7 => ∃ k : Nat, k ≤ l.length ∧ t7 = .int .i64 k ∧ ∀ i, i < k → (l.getD i []).length = cols.length) (fun t7 => l.length - (intOf t7).toNat)
    case atStart => exact ⟨0, Nat.zero_le _, rfl, fun i h => absurd h (Nat.not_lt_zero _)⟩
    case round =>
      obtain ⟨k, hk, rfl, hno⟩ := hrel
      have Hno := Lib.hid hno
      clear hno
      have kk0 : (0 : Int) ≤ (k : Int) := by omega
      by_cases hlt : k < l.length
      · obtain ⟨ao', cap', e', -, -, -, hc⟩ := (Sl.below Hv.out rowE_loc HB0.out hhi).form
        injection e' with e1 e2 e3
        subst e1 e3
        obtain ⟨b, off, rfl, hb1, hb2, hcc⟩ := hc k hlt
        obtain ⟨cs, _, hcs, sv, rfl, hsv⟩ := hcc k hlt
        have g0 := hcs.c1
        rw [Nat.mul_one] at g0
        have kkl : (k : Int) < (l.length : Int) := by omega
        have Hx : Hid (l.getD k [] = l[k]) := Lib.hid (getDS l _ k hlt)
        have Hbadk : Hid (l[k].length ≠ cols.length → ofErr cols l = 2) := Lib.hid (fun h => by
          have : (l.any fun x => x.length != cols.length) = true := by
            rw [List.any_eq_true]
            exact ⟨l[k], List.getElem_mem hlt, by simpa using h⟩
          unfold ofErr fitB
          rw [this]; simp)
        obtain ⟨ay, cy, rfl, -, -, -, -⟩ := hsv.form
        clear hcc hcs hc hsv
        generalize l[k] = x at *
        obtain ⟨q, hq⟩ : ∃ q, q = cols.length := ⟨_, rfl⟩
        obtain ⟨n, hn⟩ : ∃ n, n = x.length := ⟨_, rfl⟩
        rw [← hn] at g0
        have Hq := Lib.hid hq
        have Hn := Lib.hid hn
        by_cases he : n = q
        · have c1 : ((n : Int) != (q : Int)) = false := by simp [he]
          have He := Lib.hid he
          rw [hq] at c1
          clear he hq hn
          go_wp2_with fail
          go_round
          case rel => exact ⟨k + 1, by omega, by go_num, fun i hi => by
            by_cases e : i = k
            · subst e; rw [Hx.out, ← Hn.out, ← Hq.out]; exact He.out
            · exact Hno.out i (by omega)⟩
          case measure => simp [intOf]; omega
        · have c1 : ((n : Int) != (q : Int)) = true := by simp; omega
          have he2 := Hbadk.out (by rw [← Hn.out, ← Hq.out]; exact he)
          have hr := Hbad.out (by rw [he2]; decide) _ HBs.out
          rw [he2] at hr
          have Hr := Lib.hid hr
          rw [hq] at c1
          clear he he2 hr hq hn
          go_wp2_with fail
          exact ret_cell_tmp rfl rfl Hrv.out rfl rfl Hr.out
      · obtain rfl : k = l.length := by omega
        have Hfit : Hid (fitB cols l = true) := Lib.hid (by
          unfold fitB
          rw [Hon.out]
          have : (l.any fun x => x.length != cols.length) = false := by
            rw [List.any_eq_false]
            intro x hx
            obtain ⟨i, hi, rfl⟩ := List.getElem_of_mem hx
            have := Hno.out i hi
            rw [getDS l _ i hi] at this
            simp [this]
          rw [this]; rfl)
        have llt : ¬ ((l.length : Nat) : Int) < (l.length : Int) := by omega
        clear d0 d1 f0 f1
        go_wp2_with fail
        refine refMade_any lo hi cols ac cc l _ w0 (Sl.below Hv.out rowE_loc HB0.out hhi) (by omega) hlen Hrl.out Hrs.out _ (fun hbad w3 hB3 => ?_) (fun h1 h2 w3 lv2 hB3 ho3 => ?_)
        · have he : ofErr cols l = 140 := by
            unfold ofErr
            rw [if_pos Hfit.out, if_pos (by rcases hbad with h | h; · have := once_len Hon.out; omega
                                            · exact h)]
          have hb3 := Hb0.out.below hB3 hb0l
          obtain ⟨d0, d1⟩ := hb3.cells.c2
          have f0 := hb3.free 0
          have f1 := hb3.free 1
          simp only [Nat.zero_add] at d1
          have Hrv := Lib.hid (((hb3.set 0 (.slice none 0 0)).set 1 (.slice none 0 0)).cells.runVar (P := Try.prog) (t := 53) (fun _ => by kernel_rfl) (fun _ => by kernel_rfl))
          have hr := Hbad.out (by rw [he]; decide) _ (((HB0.out.trans (hB3.mono hz0)).setCell (p := ⟨w.heap.size, 0, none⟩) (Nat.le_refl _) (.slice none 0 0)).setCell (p := ⟨w.heap.size, 1, none⟩) (Nat.le_refl _) (.slice none 0 0))
          rw [he] at hr
          have Hr := Lib.hid hr
          clear he hr hb3 hB3 hbad
          go_wp2_with fail
          exact ret_cell_tmp rfl rfl Hrv.out rfl rfl Hr.out
        · have he : ofErr cols l = 0 := by
            unfold ofErr
            rw [if_pos Hfit.out, if_neg (by omega)]
          have hb3 := Hb0.out.below hB3 hb0l
          obtain ⟨p2, c2, e2, -, -, -, -⟩ := ho3.form
          subst e2
          obtain ⟨m, hm⟩ : ∃ m, m = (relCanon l).length := ⟨_, rfl⟩
          rw [← hm] at ho3 ⊢
          obtain ⟨d0, d1⟩ := hb3.cells.c2
          have f0 := hb3.free 0
          have f1 := hb3.free 1
          simp only [Nat.zero_add] at d1
          have Hrv := Lib.hid (((hb3.set 0 (.slice ac cols.length cc)).set 1 (.slice p2 m c2)).cells.runVar (P := Try.prog) (t := 53) (fun _ => by kernel_rfl) (fun _ => by kernel_rfl))
          have hrw : Rws w.heap.size ((w3.setCell ⟨w.heap.size, 0, none⟩ (.slice ac cols.length cc)).setCell ⟨w.heap.size, 1, none⟩ (.slice p2 m c2)).heap.size ((w3.setCell ⟨w.heap.size, 0, none⟩ (.slice ac cols.length cc)).setCell ⟨w.heap.size, 1, none⟩ (.slice p2 m c2)) (.slice p2 m c2) (relCanon l) :=
            (ho3.agree rowE_loc (fun k h1 h2 => (Below.heap_setCell _ _ _ _ (by show k ≠ w.heap.size; omega)).trans (Below.heap_setCell _ _ _ _ (by show k ≠ w.heap.size; omega)))).mono rowE_loc (by omega) (by simp)
          have Hr := Lib.hid (Hok.out he ((w3.setCell ⟨w.heap.size, 0, none⟩ (.slice ac cols.length cc)).setCell ⟨w.heap.size, 1, none⟩ (.slice p2 m c2)) (.slice p2 m c2) (((HB0.out.trans (hB3.mono hz0)).setCell (p := ⟨w.heap.size, 0, none⟩) (Nat.le_refl _) (.slice ac cols.length cc)).setCell (p := ⟨w.heap.size, 1, none⟩) (Nat.le_refl _) (.slice p2 m c2)) hrw)
          clear he hb3 hB3 hrw h1 h2 ho3 hm
          go_wp2_with fail
          exact ret_cell_tmp rfl rfl Hrv.out rfl rfl Hr.out
end Go.Proofs.Ytpncblagjkbemaa
