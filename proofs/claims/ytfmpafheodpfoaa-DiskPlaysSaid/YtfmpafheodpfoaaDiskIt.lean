/- disk.dirty: the iterator over the sectors that have writes. -/
import Derived.Test.YtfmpafheodpfoaaDiskW
import Derived.Test.YtfmpafheodpfoaaRangeR
import Derived.Scope
namespace Go.Proofs.Ytfmpafheodpfoaa
open Go.RowKit Go.Shelf
set_option linter.unusedVariables false
set_option linter.unusedSimpArgs false
attribute [local go_sem] Oper.semAt_some

set_option maxRecDepth 100000 in
set_option maxHeartbeats 4000000 in
theorem dirty1_any {kW : Nat} (kb db wb n m l : Nat) (L : Nat → Nat) (J : Nat → Nat → World → Prop)
    (hcell : ∀ i c W, J i c W → i < n → ∃ ao cap, W.cell? ⟨wb, i, none⟩ = some (.slice ao (L i) cap))
    (hskip : ∀ i c W, J i c W → i < n → L i = 0 → J (i + 1) c W)
    (hY : ∀ i c W, J i c W → i < n → c ≤ i → L i ≠ 0 → YieldAt Fence.wide m Try.prog l #[.int .i64 c, .int .i64 i] W (fun e W' => e = .returned (.bool true) ∧ J (i + 1) (c + 1) W'))
    (W0 : World) (hJ0 : J 0 0 W0) (hk : W0.cell? ⟨kb, 0, none⟩ = some (.pointer (some ⟨db, 0, none⟩))) (hc : W0.cell? ⟨db, 1, none⟩ = some (.slice (some ⟨wb, 0, none⟩) n kW)) (hn : n ≤ 65536) :
    CallsIn Fence.wide (m + 1) Try.prog 45 #[.func (.yield l) #[] #[], .pointer (some ⟨kb, 0, none⟩)] W0 (fun e W' => (∃ v, e = .returned v) ∧ ∃ c, c ≤ n ∧ J n c W') := by
  have Hcell := Lib.hid hcell
  have Hskip := Lib.hid hskip
  have HY := Lib.hid hY
  clear hcell hskip hY
  refine callsIn_of_wp Try.func45 rfl trivial ?_ rfl
  simp only [Try.ntmps45, List.size_toArray, List.length_cons, Nat.reduceAdd, Nat.reduceSub, Array.replicate_succ, Array.replicate_zero, List.push_toArray, List.append_toArray, List.nil_append, List.cons_append, List.length_nil]
  refine wpIn_wide.2 (wp_scope_straight ((wpIn_wide (n := m + 1)).1 ?_))
  gi_wp2
  refine wpIn_label ?_
  gi_wp2
  gi_loopw [3, 11] (fun t3 t11 wr => ∃ (c k : Nat), c ≤ k ∧ k ≤ n ∧ t3 = .int .i64 c ∧ t11 = .int .i64 k ∧ J k c wr)
    (fun _ t11 _ => n - (intOf t11).toNat)
  case atStart => exact ⟨0, 0, Nat.le_refl _, Nat.zero_le _, rfl, rfl, hJ0⟩
  case round =>
    obtain ⟨c, k, hck, hkle, rfl, rfl, hj⟩ := hrel
    have Hj := Lib.hid hj
    clear hj
    by_cases hlt : k < n
    · obtain ⟨ao, cap, g0⟩ := Hcell.out k c _ Hj.out hlt
      by_cases hz : L k = 0
      · rw [hz] at g0
        have Hj1 := Lib.hid (Hskip.out k c _ Hj.out hlt hz)
        gi_wp2_with fail
        go_roundw
        case rel => exact ⟨c, k + 1, by omega, by omega, by go_num, by go_num, Hj1.out⟩
        case measure => simp [intOf]; omega
      · have hz2 : ¬ ((L k : Int) = 0) := by omega
        obtain ⟨yf, yt, ya, yb, hy, hR⟩ := HY.out k c _ Hj.out hlt hck hz
        gi_wp2_with fail
        refine hR.mono ?_
        rintro e W3 ⟨rfl, hj3⟩
        have Hj3 := Lib.hid hj3
        clear hj3 hy
        gi_wp2_with fail
        go_roundw
        case rel => exact ⟨c + 1, k + 1, by omega, by omega, by go_num, by go_num, Hj3.out⟩
        case measure => simp [intOf]; omega
    · have hkn : k = n := by omega
      subst hkn
      have Hr := Lib.hid Hj.out
      gi_wp2_with fail
      simp only [Exit.noGoto]
      go_end0
      exact ⟨⟨_, rfl⟩, c, hck, Hr.out⟩

set_option maxRecDepth 100000 in
set_option maxHeartbeats 2000000 in
theorem dirty_any (db : Nat) (w : World) (R : Ending → World → Prop)
    (hR : R (.returned (.func (.func 45) #[] #[.pointer (some ⟨w.heap.size, 0, none⟩)])) (w.alloc (.cells #[.pointer (some ⟨db, 0, none⟩)] 25))) :
    Calls Try.prog 31 #[.pointer (some ⟨db, 0, none⟩)] w R := by
  go_enter Try.func31, Try.ntmps31
  go_wp2_with fail
  first | exact hR | exact fin hR rfl
end Go.Proofs.Ytfmpafheodpfoaa
