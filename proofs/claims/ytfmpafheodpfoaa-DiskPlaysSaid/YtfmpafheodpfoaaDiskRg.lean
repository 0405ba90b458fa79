/- The document's disk: counts, Read, Safe, Dirty. -/
import Derived.Test.YtfmpafheodpfoaaDiskRf
import Derived.Test.YtfmpafheodpfoaaDiskRd
namespace Go.Proofs.Ytfmpafheodpfoaa
open Go.RowKit
attribute [local go_sem ↓] Go.wp_at_zero Go.wp_at_succ
set_option linter.unusedVariables false
set_option linter.unusedSimpArgs false

set_option maxRecDepth 100000 in
set_option maxHeartbeats 2000000 in
theorem countsR_any (rb : Nat) (lv : Value) (fuse ops : Int) (down : Bool) (w : World) (h : Blk w rb [lv, .int .i64 fuse, .bool down, .int .i64 ops] 49) (hf : fuse ≤ 9223372036854775807 ∧ -9223372036854775808 ≤ fuse) (ho : 0 ≤ ops ∧ ops < 1000000) (R : Ending → World → Prop)
    (hR0 : fuse = 0 → ∀ w', Only (· = rb) w w' → w'.heap.size = w.heap.size → Blk w' rb [lv, .int .i64 fuse, .bool true, .int .i64 ops] 49 → R (.returned (.int .i64 210)) w')
    (hR1 : fuse ≠ 0 → ∀ w', Only (· = rb) w w' → w'.heap.size = w.heap.size → Blk w' rb [lv, .int .i64 (fuse1 fuse), .bool down, .int .i64 (ops + 1)] 49 → R (.returned (.int .i64 0)) w') :
    Calls Try.prog 46 #[.pointer (some ⟨rb, 0, none⟩)] w R := by
  have H := Lib.hid h
  obtain ⟨c0, c1, c2, c3⟩ := h.cells.c4
  simp only [Nat.zero_add] at c1 c2 c3
  have f1 := h.free 1
  have f2 := h.free 2
  have f3 := h.free 3
  have hlt := h.lt
  clear h
  by_cases h0 : fuse = 0
  · subst h0
    have hr := hR0 rfl _ (Only.setCell (A := (· = rb)) w (p := ⟨rb, 2, none⟩) rfl (.bool true)) (by simp [World.setCell]) (H.out.set 2 (.bool true))
    go_enter Try.func46, Try.ntmps46
    go_wp2_with fail
    all_goals first | exact hr | exact fin hr rfl
  · have hz : (fuse == 0) = false := by simpa using h0
    have hw1 : IntKind.i64.wrap (ops + 1) = ops + 1 := by rw [IntKind.wrap_i64]; omega
    by_cases h1 : 0 < fuse
    · have hw2 : IntKind.i64.wrap (fuse - 1) = fuse - 1 := by rw [IntKind.wrap_i64]; omega
      have hb := (H.out.set 1 (.int .i64 (fuse - 1))).set 3 (.int .i64 (ops + 1))
      have hr := hR1 h0 _ ((Only.setCell (A := (· = rb)) w (p := ⟨rb, 1, none⟩) rfl (.int .i64 (fuse - 1))).trans (Only.setCell (A := (· = rb)) _ (p := ⟨rb, 3, none⟩) rfl (.int .i64 (ops + 1)))) (by simp [World.setCell]) (by rw [fuse1, if_pos h1]; exact hb)
      go_enter Try.func46, Try.ntmps46
      go_wp2_with fail
      all_goals first | exact hr | exact fin hr rfl
    · have hb := H.out.set 3 (.int .i64 (ops + 1))
      have hr := hR1 h0 _ (Only.setCell (A := (· = rb)) w (p := ⟨rb, 3, none⟩) rfl (.int .i64 (ops + 1))) (by simp [World.setCell]) (by rw [fuse1, if_neg h1]; exact hb)
      go_enter Try.func46, Try.ntmps46
      go_wp2_with fail
      all_goals first | exact hr | exact fin hr rfl

set_option maxRecDepth 100000 in
set_option maxHeartbeats 2000000 in
theorem SafeR_any (S : Nat → Prop) (rb : Nat) (d : Dk) (i : Int) (w : World) (h : RfAt w S rb d) (R : Ending → World → Prop)
    (hR0 : safeE d.safe.length i ≠ 0 → R (.returned (.tuple #[.string ⟨#[]⟩, .int .i64 211])) w)
    (hR : safeE d.safe.length i = 0 → R (.returned (.tuple #[sV (d.safe.getD i.toNat []), .int .i64 0])) w) : Calls Try.prog 43 #[.pointer (some ⟨rb, 0, none⟩), .int .i64 i] w R := by
  obtain ⟨lb, c, ws, h⟩ := h
  have H := Lib.hid h
  obtain ⟨c0, -, -, -⟩ := h.hd.cells.c4
  have hcap := h.cap
  clear h
  go_enter Try.func43, Try.ntmps43
  by_cases h0 : i < 0
  · have hr := hR0 (by simp [safeE, h0])
    clear hR0 hR
    go_wp2_with fail
    all_goals first | exact hr | exact fin hr rfl
  · by_cases h1 : (d.safe.length : Int) ≤ i
    · have hr := hR0 (by simp [safeE, h1])
      clear hR0 hR
      go_wp2_with fail
      all_goals first | exact hr | exact fin hr rfl
    · obtain ⟨n, rfl⟩ := Int.eq_ofNat_of_zero_le (Int.not_lt.1 h0)
      have hr := hR (by simp [safeE]; omega)
      have hn : n < d.safe.length := by omega
      obtain ⟨g, c1, x0, x1, x2, -, -, -, -, -, hc⟩ := H.out.at n hn
      have y0 := hc 0 (by simp)
      rw [Int.toNat_natCast] at hr
      rw [List.getElem_cons_zero] at y0
      unfold sV at y0 hr
      have hp : (0 : Int) < (((d.writes.getD n []).length : Nat) : Int) + 1 := by omega
      generalize (d.writes.getD n []).length = m at *
      generalize d.safe.getD n [] = s at *
      clear hR0 hR hc
      go_wp2_with fail
      all_goals first | exact hr | exact fin hr rfl

set_option maxRecDepth 100000 in
set_option maxHeartbeats 4000000 in
theorem ReadR_any (S : Nat → Prop) (rb : Nat) (d : Dk) (i : Int) (w : World) (h : RfAt w S rb d) (hw : ∀ l ∈ d.writes, l.length ≤ 1000000) (R : Ending → World → Prop)
    (hR0 : upE d.safe.length d.down i ≠ 0 → R (.returned (.tuple #[.string ⟨#[]⟩, .int .i64 (upE d.safe.length d.down i)])) w)
    (hR : upE d.safe.length d.down i = 0 → ∀ w', Below w.heap.size w w' → R (.returned (.tuple #[sV (d.last i.toNat), .int .i64 0])) w') : Calls Try.prog 41 #[.pointer (some ⟨rb, 0, none⟩), .int .i64 i] w R := by
  obtain ⟨lb, c, ws, h⟩ := h
  have H := Lib.hid h
  obtain ⟨c0, -, c2, -⟩ := h.hd.cells.c4
  have hcap := h.cap
  clear h
  go_enter Try.func41, Try.ntmps41
  cases hdn : d.down
  · rw [hdn] at c2 hR0 hR
    by_cases h0 : i < 0
    · have hr := hR0 (by simp [upE, h0])
      rw [show upE d.safe.length false i = 211 by simp [upE, h0]] at hr
      clear hR0 hR
      go_wp2_with fail
      all_goals first | exact hr | exact fin hr rfl
    · by_cases h1 : (d.safe.length : Int) ≤ i
      · have hr := hR0 (by simp [upE, h1])
        rw [show upE d.safe.length false i = 211 by simp [upE, h1]] at hr
        clear hR0 hR
        go_wp2_with fail
        all_goals first | exact hr | exact fin hr rfl
      · obtain ⟨n, rfl⟩ := Int.eq_ofNat_of_zero_le (Int.not_lt.1 h0)
        have HR := Lib.hid (hR (by simp [upE]; omega))
        have hn : n < d.safe.length := by omega
        obtain ⟨g, c1, x0, x1, x2, -, -, -, -, -, hc⟩ := H.out.at n hn
        have y0 := hc (d.writes.getD n []).length (by simp)
        rw [last_at] at y0
        unfold sV at y0
        have hm : (d.writes.getD n []).length ≤ 1000000 := by
          by_cases hnw : n < d.writes.length
          · exact hw _ (by simp [List.getD, List.getElem?_eq_getElem hnw])
          · simp [List.getD, List.getElem?_eq_none (Nat.not_lt.1 hnw)]
        rw [Int.toNat_natCast] at HR
        generalize (d.writes.getD n []).length = m at *
        generalize d.last n = s at *
        have m0 : (0 : Int) ≤ (m : Int) := by omega
        have ml : (m : Int) < ((m + 1 : Nat) : Int) := by omega
        have ms : ((m + 1 : Nat) : Int) - 1 = (m : Int) := by omega
        have ms2 : IntKind.i64.wrap (((m + 1 : Nat) : Int) - 1) = (m : Int) := by rw [ms, IntKind.wrap_i64]; omega
        clear hR0 hR hc hdn
        go_wp2_with fail
        go_quiet (fail)
        have hr := HR.out _ (drewN (Below.refl w.heap.size w) nq)
        go_wp2_with fail
        all_goals first | exact hr | exact fin hr rfl
  · rw [hdn] at c2 hR0 hR
    have hr := hR0 (by simp [upE])
    rw [show upE d.safe.length true i = 210 by simp [upE]] at hr
    clear hR0 hR
    go_wp2_with fail
    all_goals first | exact hr | exact fin hr rfl
end Go.Proofs.Ytfmpafheodpfoaa
