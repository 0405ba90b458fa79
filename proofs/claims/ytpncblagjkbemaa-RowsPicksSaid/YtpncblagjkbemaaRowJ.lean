/- The document's relation of rows: made, Of. -/
import Derived.Test.YtpncblagjkbemaaRowI
namespace Go.Proofs.Ytpncblagjkbemaa
open Go.RowKit
set_option linter.unusedVariables false
set_option linter.unusedSimpArgs false

theorem canon_take {xs : List (List V)} {k : Nat} (h : k < xs.length) : relCanon (xs.take (k + 1)) = insR cmpR xs[k] (relCanon (xs.take k)) := by
  unfold relCanon canonL
  rw [List.take_succ_eq_append_getElem h, List.foldl_append]
  rfl
set_option maxRecDepth 100000 in
set_option maxHeartbeats 4000000 in
theorem refMade_any (lo hi : Nat) (cols : List S) (ac : Option Addr) (cc : Nat) (l : List (List V)) (lv : Value) (w : World) (hv : Rws lo hi w lv l) (hhi : hi ≤ w.heap.size) (hlen : l.length ≤ 1000000000000) (hrl : ∀ x ∈ l, x.length ≤ 4000000000000) (hrs : ∀ x ∈ l, ∀ a ∈ x, a.s.length ≤ 9223372036854775807) (R : Ending → World → Prop)
    (hbad : (32 < cols.length ∨ 100000 < (relCanon l).length) → ∀ w', Below w.heap.size w w' → R (.returned (.tuple #[.agg #[.slice none 0 0, .slice none 0 0], .int .i64 140])) w')
    (hok : cols.length ≤ 32 → (relCanon l).length ≤ 100000 → ∀ w' lv2, Below w.heap.size w w' → Rws w.heap.size w'.heap.size w' lv2 (relCanon l) → R (.returned (.tuple #[.agg #[.slice ac cols.length cc, lv2], .int .i64 0])) w') :
    Calls Try.prog 74 #[.slice ac cols.length cc, lv] w R := by
  have Hbad := Lib.hid hbad
  have Hok := Lib.hid hok
  have Hv := Lib.hid hv
  have Hrl := Lib.hid hrl
  have Hrs := Lib.hid hrs
  obtain ⟨av, cv, rfl, -, -, -, -⟩ := hv.form
  clear hbad hok hv hrl hrs
  have hB0 := alloc_below w (.cells #[.slice none 0 0, .slice none 0 0] 53)
  have hb0 := Blk.new w [.slice none 0 0, .slice none 0 0] 53 rfl
  obtain ⟨q, hq⟩ : ∃ q, q = cols.length := ⟨_, rfl⟩
  rw [← hq]
  have Hq := Lib.hid hq
  clear hq
  go_enter Try.func74, Try.ntmps74
  go_upto_region 1 with fail
  generalize w.alloc (.cells #[.slice none 0 0, .slice none 0 0] 53) = w0 at *
  have HB0 := Lib.hid hB0
  have Hb0 := Lib.hid hb0
  have hz0 := hB0.size
  have hb0l := hb0.lt
  clear hB0 hb0
  by_cases h32 : 32 < q
  · have c32 : (32 : Int) < (q : Int) := by omega
    have hb2 := Hb0.out
    obtain ⟨d0, d1⟩ := hb2.cells.c2
    have f0 := hb2.free 0
    have f1 := hb2.free 1
    simp only [Nat.zero_add] at d1
    have Hrv := Lib.hid (((hb2.set 0 (.slice none 0 0)).set 1 (.slice none 0 0)).cells.runVar (P := Try.prog) (t := 53) (fun _ => by kernel_rfl) (fun _ => by kernel_rfl))
    have Hr := Lib.hid (Hbad.out (.inl (by rw [← Hq.out]; exact h32)) _ ((HB0.out.setCell (p := ⟨w.heap.size, 0, none⟩) (Nat.le_refl _) (.slice none 0 0)).setCell (p := ⟨w.heap.size, 1, none⟩) (Nat.le_refl _) (.slice none 0 0)))
    clear hb2
    go_wp2_with fail
    exact ret_cell_tmp rfl rfl Hrv.out rfl rfl Hr.out
  · have c32 : ¬ (32 : Int) < (q : Int) := by omega
    go_wp2_with fail
    go_loopw [6, 7] (fun t6 t7 wr => ∃ k : Nat, k ≤ l.length ∧ t7 = .int .i64 k ∧ Rws w0.heap.size wr.heap.size wr t6 (relCanon (l.take k)) ∧ Below w0.heap.size w0 wr) (fun _ t7 _ => l.length - (intOf t7).toNat)
    case atStart => exact ⟨0, Nat.zero_le _, rfl, Sl.nil _ _ _ _ _, Below.refl _ _⟩
    case round =>
      obtain ⟨k, hk, rfl, ho, hB⟩ := hrel
      obtain ⟨wo, ewo⟩ : ∃ x, x = wr := ⟨_, rfl⟩
      subst ewo
      have Ho := Lib.hid ho
      have HB := Lib.hid hB
      have hz := hB.size
      have kk0 : (0 : Int) ≤ (k : Int) := by omega
      have HBw := Lib.hid (HB0.out.trans (hB.mono hz0))
      obtain ⟨po, co, hpo, -, -, -, -⟩ := ho.form
      clear ho hB
      by_cases hlt : k < l.length
      · obtain ⟨ao', cap', e', -, -, -, hc⟩ := (Sl.below Hv.out rowE_loc HBw.out hhi).form
        injection e' with e1 e2 e3
        subst e1 e3
        obtain ⟨b, off, rfl, hb1, hb2, hcc⟩ := hc k hlt
        obtain ⟨cs, _, hcs, sv, rfl, hsv⟩ := hcc k hlt
        have g0 := hcs.c1
        rw [Nat.mul_one] at g0
        have kkl : (k : Int) < (l.length : Int) := by omega
        have Hsv := Lib.hid hsv
        have Hst := Lib.hid (canon_take hlt)
        have Hxl := Lib.hid (Hrl.out _ (List.getElem_mem hlt))
        have Hxs := Lib.hid (Hrs.out _ (List.getElem_mem hlt))
        have hcl : (relCanon (l.take k)).length ≤ 1000000000000 := by
          have := canon_len_le (l.take k)
          rw [List.length_take] at this
          omega
        have Hos : Hid (∀ y ∈ relCanon (l.take k), ∀ a ∈ y, a.s.length ≤ 9223372036854775807) := Lib.hid (fun y hy a ha => Hrs.out y (List.mem_of_mem_take ((canon_mem cmpR_cmp _ _).1 hy)) a ha)
        have Hup : Hid (Up cmpR (relCanon (l.take k))) := Lib.hid (canon_up cmpR_cmp _)
        have hslv := hsv
        obtain ⟨ay, cy, rfl, -, -, -, -⟩ := hslv.form
        clear hcc hcs hc hsv hslv
        generalize l[k] = x at *
        generalize relCanon (l.take k) = out at *
        subst hpo
        go_wp2_with fail
        refine put_any w0.heap.size wo.heap.size lo hi out x _ _ wo Ho.out Hsv.out (Nat.le_refl _) hz (by have := HBw.out.size; omega) Hup.out hcl Hxl.out Hxs.out Hos.out _ (fun w2 v2 hB2 ho2 => ?_)
        have HB2 := Lib.hid (HB.out.trans (hB2.mono hz))
        have Ho2 := Lib.hid ho2
        obtain ⟨p2, c2, e2, -, -, -, -⟩ := ho2.form
        clear hB2 ho2
        subst e2
        go_wp2_with fail
        go_roundw
        case rel => exact ⟨k + 1, by omega, by go_num, by rw [Hst.out]; exact Ho2.out, HB2.out⟩
        case measure => simp [intOf]; omega
      · obtain rfl : k = l.length := by omega
        have hO := Ho.out
        rw [List.take_length] at hO hpo
        have HO := Lib.hid hO
        clear hO
        have hb2 := Hb0.out.below HB.out hb0l
        obtain ⟨d0, d1⟩ := hb2.cells.c2
        have f0 := hb2.free 0
        have f1 := hb2.free 1
        simp only [Nat.zero_add] at d1
        obtain ⟨m, hm⟩ : ∃ m, m = (relCanon l).length := ⟨_, rfl⟩
        rw [← hm] at hpo
        have Hm := Lib.hid hm
        clear hm
        subst hpo
        have llt : ¬ ((l.length : Nat) : Int) < (l.length : Int) := by omega
        by_cases h10 : 100000 < m
        · have c10 : (100000 : Int) < (m : Int) := by omega
          have Hrv := Lib.hid (((hb2.set 0 (.slice none 0 0)).set 1 (.slice none 0 0)).cells.runVar (P := Try.prog) (t := 53) (fun _ => by kernel_rfl) (fun _ => by kernel_rfl))
          have Hr := Lib.hid (Hbad.out (.inr (by rw [← Hm.out]; exact h10)) _ ((HBw.out.setCell (p := ⟨w.heap.size, 0, none⟩) (Nat.le_refl _) (.slice none 0 0)).setCell (p := ⟨w.heap.size, 1, none⟩) (Nat.le_refl _) (.slice none 0 0)))
          clear hb2
          go_wp2_with fail
          exact ret_cell_tmp rfl rfl Hrv.out rfl rfl Hr.out
        · have c10 : ¬ (100000 : Int) < (m : Int) := by omega
          have Hrv := Lib.hid (((hb2.set 0 (.slice ac q cc)).set 1 (.slice po m co)).cells.runVar (P := Try.prog) (t := 53) (fun _ => by kernel_rfl) (fun _ => by kernel_rfl))
          have hrw : Rws w.heap.size ((wo.setCell ⟨w.heap.size, 0, none⟩ (.slice ac q cc)).setCell ⟨w.heap.size, 1, none⟩ (.slice po m co)).heap.size ((wo.setCell ⟨w.heap.size, 0, none⟩ (.slice ac q cc)).setCell ⟨w.heap.size, 1, none⟩ (.slice po m co)) (.slice po m co) (relCanon l) :=
            (HO.out.agree rowE_loc (fun k h1 h2 => (Below.heap_setCell _ _ _ _ (by show k ≠ w.heap.size; omega)).trans (Below.heap_setCell _ _ _ _ (by show k ≠ w.heap.size; omega)))).mono rowE_loc hz0 (by simp)
          have hr := Hok.out (by rw [← Hq.out]; omega) (by rw [← Hm.out]; omega) ((wo.setCell ⟨w.heap.size, 0, none⟩ (.slice ac q cc)).setCell ⟨w.heap.size, 1, none⟩ (.slice po m co)) (.slice po m co) ((HBw.out.setCell (p := ⟨w.heap.size, 0, none⟩) (Nat.le_refl _) (.slice ac q cc)).setCell (p := ⟨w.heap.size, 1, none⟩) (Nat.le_refl _) (.slice po m co)) hrw
          rw [← Hq.out] at hr
          have Hr := Lib.hid hr
          clear hb2 hr
          go_wp2_with fail
          exact ret_cell_tmp rfl rfl Hrv.out rfl rfl Hr.out
end Go.Proofs.Ytpncblagjkbemaa
