/- What is too great for the law; the document's relation of the program's. -/
import Derived.Test.YtpncblagjkbemaaRowK
namespace Go.Proofs.Ytpncblagjkbemaa
open Go.RowKit
set_option linter.unusedVariables false
set_option linter.unusedSimpArgs false

def greatB (cols : List S) (l : List (List V)) : Bool := decide (60 < cols.length) || decide (150 < l.length) || l.any fun x => decide (60 < x.length)
set_option maxRecDepth 100000 in
set_option maxHeartbeats 4000000 in
theorem great_any (lo hi : Nat) (cols : List S) (ac : Option Addr) (cc : Nat) (l : List (List V)) (lv : Value) (w : World) (hv : Rws lo hi w lv l) (R : Ending → World → Prop) (hR : R (.returned (.bool (greatB cols l))) w) :
    Calls Try.prog 22 #[.slice ac cols.length cc, lv] w R := by
  have HR := Lib.hid hR
  obtain ⟨av, cv, rfl, -, hcm, -, hc⟩ := hv.form
  have Hc := Lib.hid hc
  clear hR hv hc
  obtain ⟨q, hq⟩ : ∃ q, q = cols.length := ⟨_, rfl⟩
  rw [← hq]
  have Hq := Lib.hid hq
  clear hq
  go_enter Try.func22, Try.ntmps22
  by_cases h1 : 60 < q
  · have c1 : (60 : Int) < (q : Int) := by omega
    have hr := HR.out
    have e : greatB cols l = true := by unfold greatB; rw [decide_eq_true (by rw [← Hq.out]; exact h1)]; rfl
    rw [e] at hr
    clear e
    go_wp2_with fail
    first | exact hr | exact fin hr rfl
  · have c1 : ¬ (60 : Int) < (q : Int) := by omega
    by_cases h2 : 150 < l.length
    · have c2 : (150 : Int) < (l.length : Int) := by omega
      have hr := HR.out
      have e : greatB cols l = true := by unfold greatB; rw [decide_eq_true h2]; simp
      rw [e] at hr
      clear e
      go_wp2_with fail
      first | exact hr | exact fin hr rfl
    · have c2 : ¬ (150 : Int) < (l.length : Int) := by omega
      have Hcl : Hid (decide (60 < cols.length) = false) := Lib.hid (decide_eq_false (by rw [← Hq.out]; exact h1))
      clear h1
      go_wp2_with fail
      go_loop [16] (fun t16 => ∃ k : Nat, k ≤ l.length ∧ t16 = .int .i64 k ∧ ∀ i, i < k → (l.getD i []).length ≤ 60) (fun t16 => l.length - (intOf t16).toNat)
      case atStart => exact ⟨0, Nat.zero_le _, rfl, fun i h => absurd h (Nat.not_lt_zero _)⟩
      case round =>
        obtain ⟨k, hk, rfl, hno⟩ := hrel
        have Hno := Lib.hid hno
        clear hno
        have kk0 : (0 : Int) ≤ (k : Int) := by omega
        by_cases hlt : k < l.length
        · obtain ⟨b, off, rfl, hb1, hb2, hcc⟩ := Hc.out k hlt
          obtain ⟨cs, _, hcs, sv, rfl, hsv⟩ := hcc k hlt
          have g0 := hcs.c1
          rw [Nat.mul_one] at g0
          have kkl : (k : Int) < (l.length : Int) := by omega
          have Hx : Hid (l.getD k [] = l[k]) := Lib.hid (getDS l _ k hlt)
          have Hbadk : Hid (60 < l[k].length → greatB cols l = true) := Lib.hid (fun h => by
            have : (l.any fun x => decide (60 < x.length)) = true := by
              rw [List.any_eq_true]
              exact ⟨l[k], List.getElem_mem hlt, by simpa using h⟩
            unfold greatB
            rw [this]; simp)
          obtain ⟨ay, cy, rfl, -, -, -, -⟩ := hsv.form
          clear hcc hcs hsv
          generalize l[k] = x at *
          by_cases h3 : 60 < x.length
          · have c3 : (60 : Int) < (x.length : Int) := by omega
            have hr := HR.out
            rw [Hbadk.out h3] at hr
            clear h3
            go_wp2_with fail
            first | exact hr | exact fin hr rfl
          · have c3 : ¬ (60 : Int) < (x.length : Int) := by omega
            go_wp2_with fail
            go_round
            case rel => exact ⟨k + 1, by omega, by go_num, fun i hi => by
              by_cases e : i = k
              · subst e; rw [Hx.out]; omega
              · exact Hno.out i (by omega)⟩
            case measure => simp [intOf]; omega
        · obtain rfl : k = l.length := by omega
          have llt : ¬ ((l.length : Nat) : Int) < (l.length : Int) := by omega
          have hr := HR.out
          have e : greatB cols l = false := by
            unfold greatB
            rw [Hcl.out, decide_eq_false h2]
            have : (l.any fun x => decide (60 < x.length)) = false := by
              rw [List.any_eq_false]
              intro x hx
              obtain ⟨i, hi, rfl⟩ := List.getElem_of_mem hx
              have := Hno.out i hi
              rw [getDS l _ i hi] at this
              simp; omega
            rw [this]; rfl
          rw [e] at hr
          clear e
          go_wp2_with fail
          first | exact hr | exact fin hr rfl
set_option maxRecDepth 100000 in
set_option maxHeartbeats 4000000 in
theorem ref_any (ac av : Option Addr) (nc cc nv cv : Nat) (w : World) (R : Ending → World → Prop)
    (hR : ∀ w', Below w.heap.size w w' → R (.returned (.agg #[.slice ac nc cc, .slice av nv cv])) w') :
    Calls Try.prog 32 #[.agg #[.slice ac nc cc, .slice av nv cv]] w R := by
  have HR := Lib.hid hR
  clear hR
  have hB0 := alloc_below w (.cells #[.slice ac nc cc, .slice av nv cv] 34)
  have hb0 := Blk.new w [.slice ac nc cc, .slice av nv cv] 34 rfl
  go_enter Try.func32, Try.ntmps32
  go_upto_region 1 with fail
  have hB1 := hB0.alloc hB0.size (.cells #[.slice none 0 0, .slice none 0 0] 53)
  have hb1 : Blk _ (w.heap.size + 1) [.slice none 0 0, .slice none 0 0] 53 := Blk.new (w.alloc (.cells #[.slice ac nc cc, .slice av nv cv] 34)) [.slice none 0 0, .slice none 0 0] 53 (by show _ = (w.heap.push _).size; rw [Array.size_push])
  have hc0 := hb0.alloc (.cells #[.slice none 0 0, .slice none 0 0] 53)
  generalize (w.alloc (.cells #[.slice ac nc cc, .slice av nv cv] 34)).alloc (.cells #[.slice none 0 0, .slice none 0 0] 53) = w1 at *
  obtain ⟨d0, d1⟩ := hc0.cells.c2
  simp only [Nat.zero_add] at d1
  obtain ⟨e0, e1⟩ := hb1.cells.c2
  simp only [Nat.zero_add] at e1
  have f0 := hb1.free 0
  have f1 := hb1.free 1
  have Hrv := Lib.hid (((hb1.set 0 (.slice ac nc cc)).set 1 (.slice av nv cv)).cells.runVar (P := Try.prog) (t := 53) (fun _ => by kernel_rfl) (fun _ => by kernel_rfl))
  have Hr := Lib.hid (HR.out _ ((hB1.setCell (p := ⟨w.heap.size + 1, 0, none⟩) (Nat.le_succ _) (.slice ac nc cc)).setCell (p := ⟨w.heap.size + 1, 1, none⟩) (Nat.le_succ _) (.slice av nv cv)))
  clear hb0 hB0 hB1 hb1 hc0
  go_wp2_with fail
  exact ret_cell rfl rfl Hrv.out rfl Hr.out
end Go.Proofs.Ytpncblagjkbemaa
