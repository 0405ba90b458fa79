/- Texts that the proofs of PullTells stand on, part 3. -/
import Derived.Test.YticbhfmpnmolcaaKPullTells2
/- May an item be, but for its list? The code's and the document's answers. (Printed by pulb.py.) -/
section
set_option linter.unusedVariables false
set_option linter.unusedSimpArgs false
namespace Go.Proofs.Yticbhfmpnmolcaa
open Go.RowKit
set_option linter.unusedVariables false
set_option linter.unusedSimpArgs false
abbrev V.agg (x : V) : Value := .agg #[.int .i64 x.kind, .int .i64 x.n, .string ⟨x.s.toArray⟩]
theorem run_eql_same {x : V} (w : World) : (binOp .eql 39 x.agg x.agg).run Try.prog w = .ok (.bool true) w := by go_simp
theorem run_eql_not {x y : V} (h : x ≠ y) (w : World) : (binOp .eql 39 x.agg y.agg).run Try.prog w = .ok (.bool false) w := by
  have hk : ∀ (a b : S), (⟨a.toArray⟩ : ByteArray) = ⟨b.toArray⟩ ↔ a = b := fun a b => by simp
  obtain ⟨k1, n1, s1⟩ := x
  obtain ⟨k2, n2, s2⟩ := y
  go_simp
  by_cases e1 : k1 = k2
  · by_cases e2 : n1 = n2
    · have e3 : s1 ≠ s2 := fun e => h (by rw [e1, e2, e])
      simp [e1, e2, e3]
    · simp [e1, e2]
  · simp [e1]
abbrev zeroV : V := ⟨0, 0, []⟩
theorem run_zero_not {x : V} (h : x ≠ zeroV) (w : World) : (binOp .eql 39 (.agg #[.int .i64 x.kind, .int .i64 x.n, .string ⟨x.s.toArray⟩]) (.agg #[.int .i64 0, .int .i64 0, .string ⟨#[]⟩])).run Try.prog w = .ok (.bool false) w := run_eql_not h w
theorem run_str_not {x y : S} (h : x ≠ y) (w : World) : (binOp .eql 9 (.string ⟨x.toArray⟩) (.string ⟨y.toArray⟩)).run Try.prog w = .ok (.bool false) w := by
  go_simp
theorem run_empty_not {x : S} (h : x ≠ []) (w : World) : (binOp .eql 9 (.string ⟨x.toArray⟩) (.string ⟨#[]⟩)).run Try.prog w = .ok (.bool false) w := run_str_not h w
/-- May an item be, but for its list? -/
def itOne (x : It) : Bool :=
  if x.wild then decide (x.attr = []) && !x.back && decide (x.limit = 0) && !x.has && decide (x.dflt = zeroV) && !x.nested && decide (x.sub.length = 0) && decide (x.rc = 0)
  else if 1 < ([x.has, x.nested, decide (x.rc ≠ 0)].count true) then false
  else if !wordB x.attr || decide (x.limit < 0) || decide (1000 < x.limit) || decide (x.rc < -1) || decide (100 < x.rc) || (!x.nested && decide (0 < x.sub.length)) then false
  else if x.has then mayB x.dflt else decide (x.dflt = zeroV)
theorem Blk.runItem5 {w : World} {b : Nat} {t : TypeId} {x0 x1 x2 x3 x4 x5 x6 x7 x8 x9 x10 : Value} (h : Blk w b [x0, x1, x2, x3, x4, x5, x6, x7, x8, x9, x10] t) : (loadVar 39 ⟨b, 5, none⟩).run Try.prog w = .ok (.agg #[x5, x6, x7]) w := by
  have h2 : CellsAt w b 5 [x5, x6, x7] := fun j u hu => by
    match j, hu with
    | 0, hu => obtain rfl : x5 = u := by simpa using hu
               simpa using h.cells 5 x5 rfl
    | 1, hu => obtain rfl : x6 = u := by simpa using hu
               simpa using h.cells 6 x6 rfl
    | 2, hu => obtain rfl : x7 = u := by simpa using hu
               simpa using h.cells 7 x7 rfl
    | j + 3, hu => simp at hu
  exact h2.runVar (P := Try.prog) (t := 39) (fun _ => by kernel_rfl) (fun _ => by kernel_rfl)
set_option maxRecDepth 100000 in
theorem shWord_any (s : S) (w : World) (R : Ending → World → Prop) (hR : ∀ w', Below w.heap.size w w' → R (.returned (.agg #[.int .i64 7, .int .i64 0, .string ⟨s.toArray⟩])) w') : Calls Try.prog 64 #[.string ⟨s.toArray⟩] w R := by
  have HR := Lib.hid hR
  clear hR
  go_enter Try.func64, Try.ntmps64
  go_upto_region 1 with fail
  have hB := alloc_below w (.cells #[.int .i64 0, .int .i64 0, .string ⟨#[]⟩] 39)
  have hb := Blk.new w [.int .i64 0, .int .i64 0, .string ⟨#[]⟩] 39 rfl
  generalize w.alloc (.cells #[.int .i64 0, .int .i64 0, .string ⟨#[]⟩] 39) = wa at *
  have f0 := hb.free 0
  have f1 := hb.free 1
  have f2 := hb.free 2
  obtain ⟨d0, d1, d2⟩ := hb.cells.c3
  simp only [Nat.zero_add] at d1 d2
  go_wp2_with fail
  exact ret_cell rfl rfl ((((hb.set 0 (.int .i64 7)).set 1 (.int .i64 0)).set 2 (.string ⟨s.toArray⟩)).cells.runVar (fun _ => by kernel_rfl) (fun _ => by kernel_rfl)) rfl
    (HR.out _ (((hB.setCell (p := ⟨w.heap.size, 0, none⟩) (Nat.le_refl _) _).setCell (p := ⟨w.heap.size, 1, none⟩) (Nat.le_refl _) _).setCell (p := ⟨w.heap.size, 2, none⟩) (Nat.le_refl _) _))
set_option maxRecDepth 100000 in
set_option maxHeartbeats 8000000 in
theorem shOne_any (x : It) (p : Option Addr) (c : Nat) (w : World) (hl : x.lens) (R : Ending → World → Prop) (hR : ∀ w', Below w.heap.size w w' → R (.returned (.bool (itOne x))) w') :
    Calls Try.prog 35 #[.agg #[.bool x.wild, .string ⟨x.attr.toArray⟩, .bool x.back, .int .i64 x.limit, .bool x.has, .int .i64 x.dflt.kind, .int .i64 x.dflt.n, .string ⟨x.dflt.s.toArray⟩, .bool x.nested, .slice p x.sub.length c, .int .i64 x.rc]] w R := by
  obtain ⟨wild, attr, back, limit, has, dflt, nested, sub, rc⟩ := x
  have HR := Lib.hid hR
  obtain ⟨hl1, hl2⟩ := hl
  have hsa : attr.length ≤ 9223372036854775807 := Nat.le_trans hl1 (by decide)
  have hsd : dflt.s.length ≤ 9223372036854775807 := Nat.le_trans hl2 (by decide)
  obtain ⟨b, hb⟩ : ∃ b, b = decide (dflt = zeroV) := ⟨_, rfl⟩
  have hq : ∀ w, (binOp .eql 39 (.agg #[.int .i64 dflt.kind, .int .i64 dflt.n, .string ⟨dflt.s.toArray⟩]) (.agg #[.int .i64 0, .int .i64 0, .string ⟨#[]⟩])).run Try.prog w = .ok (.bool b) w := fun w => by
    by_cases h : dflt = zeroV
    · rw [hb, decide_eq_true h, h]; exact run_eql_same w
    · rw [hb, decide_eq_false h]; exact run_zero_not h w
  have hBx := alloc_below w (.cells #[.bool wild, .string ⟨attr.toArray⟩, .bool back, .int .i64 limit, .bool has, .int .i64 dflt.kind, .int .i64 dflt.n, .string ⟨dflt.s.toArray⟩, .bool nested, .slice p sub.length c, .int .i64 rc] 66)
  have hbx := Blk.new w [.bool wild, .string ⟨attr.toArray⟩, .bool back, .int .i64 limit, .bool has, .int .i64 dflt.kind, .int .i64 dflt.n, .string ⟨dflt.s.toArray⟩, .bool nested, .slice p sub.length c, .int .i64 rc] 66 rfl
  have HB := Lib.hid hBx
  clear hR hBx hl1 hl2
  go_enter Try.func35, Try.ntmps35
  go_upto_region 1 with fail
  generalize w.alloc (.cells #[.bool wild, .string ⟨attr.toArray⟩, .bool back, .int .i64 limit, .bool has, .int .i64 dflt.kind, .int .i64 dflt.n, .string ⟨dflt.s.toArray⟩, .bool nested, .slice p sub.length c, .int .i64 rc] 66) = w1 at *
  have hlt := hbx.lt
  have kv := Blk.runItem5 hbx
  obtain ⟨y0, y1, y2, y3, y4, y5, y6, y7, y8, y9, y10⟩ := item_cells hbx.cells
  simp only [Nat.zero_add] at y1 y2 y3 y4 y5 y6 y7 y8 y9 y10
  have Hbx := Lib.hid hbx
  have Hb := Lib.hid hb
  clear hbx hb
  cases wild with
  | true =>
    by_cases ha : attr = []
    · subst ha
      cases back with
      | true =>
        have e : itOne (⟨true, [], true, limit, has, dflt, nested, sub, rc⟩ : It) = false := by simp [itOne]
        have HR2 : Hid (∀ w', Below w.heap.size w w' → R (.returned (.bool false)) w') := Lib.hid (fun w' h => by have := HR.out w' h; rwa [e] at this)
        clear e
        have hr := HR2.out w1 HB.out
        go_wp2_with fail
        first | exact hr | exact fin hr rfl
      | false =>
        by_cases hl0 : limit = 0
        · cases has with
          | true =>
            have e : itOne (⟨true, [], false, limit, true, dflt, nested, sub, rc⟩ : It) = false := by simp [itOne, hl0]
            have HR2 : Hid (∀ w', Below w.heap.size w w' → R (.returned (.bool false)) w') := Lib.hid (fun w' h => by have := HR.out w' h; rwa [e] at this)
            clear e
            have hr := HR2.out w1 HB.out
            go_wp2_with fail
            first | exact hr | exact fin hr rfl
          | false =>
            by_cases hd : b = true
            · have Hd2 : Hid (dflt = zeroV) := Lib.hid (by have hb := Hb.out; rw [hd] at hb; exact of_decide_eq_true hb.symm)
              subst hd
              cases nested with
              | true =>
                have e : itOne (⟨true, [], false, limit, false, dflt, true, sub, rc⟩ : It) = false := by simp [itOne, hl0, Hd2.out]
                have HR2 : Hid (∀ w', Below w.heap.size w w' → R (.returned (.bool false)) w') := Lib.hid (fun w' h => by have := HR.out w' h; rwa [e] at this)
                clear e
                have hr := HR2.out w1 HB.out
                go_wp2_with fail
                first | exact hr | exact fin hr rfl
              | false =>
                by_cases hs0 : sub.length = 0
                · have hs0i : (sub.length : Int) = 0 := by omega
                  by_cases hr0 : rc = 0
                  · have e : itOne (⟨true, [], false, limit, false, dflt, false, sub, rc⟩ : It) = true := by simp [itOne, hl0, Hd2.out, hs0, hr0]
                    have HR2 : Hid (∀ w', Below w.heap.size w w' → R (.returned (.bool true)) w') := Lib.hid (fun w' h => by have := HR.out w' h; rwa [e] at this)
                    clear e
                    have hr := HR2.out w1 HB.out
                    go_wp2_with fail
                    first | exact hr | exact fin hr rfl
                  · have hr0e : (rc == 0) = false := by simpa using hr0
                    have e : itOne (⟨true, [], false, limit, false, dflt, false, sub, rc⟩ : It) = false := by simp [itOne, hl0, Hd2.out, hs0, hr0]
                    have HR2 : Hid (∀ w', Below w.heap.size w w' → R (.returned (.bool false)) w') := Lib.hid (fun w' h => by have := HR.out w' h; rwa [e] at this)
                    clear e
                    have hr := HR2.out w1 HB.out
                    go_wp2_with fail
                    first | exact hr | exact fin hr rfl
                · have hs0i : ¬ (sub.length : Int) = 0 := by omega
                  have e : itOne (⟨true, [], false, limit, false, dflt, false, sub, rc⟩ : It) = false := by simp [itOne, hl0, Hd2.out, hs0]
                  have HR2 : Hid (∀ w', Below w.heap.size w w' → R (.returned (.bool false)) w') := Lib.hid (fun w' h => by have := HR.out w' h; rwa [e] at this)
                  clear e
                  have hr := HR2.out w1 HB.out
                  go_wp2_with fail
                  first | exact hr | exact fin hr rfl
            · have Hd2 : Hid (¬ dflt = zeroV) := Lib.hid (fun h => hd (by rw [Hb.out, decide_eq_true h]))
              obtain rfl : b = false := by simpa using hd
              have e : itOne (⟨true, [], false, limit, false, dflt, nested, sub, rc⟩ : It) = false := by simp [itOne, hl0, Hd2.out]
              have HR2 : Hid (∀ w', Below w.heap.size w w' → R (.returned (.bool false)) w') := Lib.hid (fun w' h => by have := HR.out w' h; rwa [e] at this)
              clear e
              have hr := HR2.out w1 HB.out
              go_wp2_with fail
              first | exact hr | exact fin hr rfl
        · have e : itOne (⟨true, [], false, limit, has, dflt, nested, sub, rc⟩ : It) = false := by simp [itOne, hl0]
          have HR2 : Hid (∀ w', Below w.heap.size w w' → R (.returned (.bool false)) w') := Lib.hid (fun w' h => by have := HR.out w' h; rwa [e] at this)
          clear e
          have hr := HR2.out w1 HB.out
          go_wp2_with fail
          first | exact hr | exact fin hr rfl
    · have hae := run_empty_not ha
      have e : itOne (⟨true, attr, back, limit, has, dflt, nested, sub, rc⟩ : It) = false := by simp [itOne, ha]
      have HR2 : Hid (∀ w', Below w.heap.size w w' → R (.returned (.bool false)) w') := Lib.hid (fun w' h => by have := HR.out w' h; rwa [e] at this)
      clear e
      have hr := HR2.out w1 HB.out
      go_wp2_with fail
      first | exact hr | exact fin hr rfl
  | false =>
    by_cases hr0 : rc = 0
    · go_wp2_with fail
      have hB2 := alloc_below w1 (.cells #[.bool has, .bool nested, .bool false] 4)
      have hbl := Blk.new w1 [.bool has, .bool nested, .bool false] 4 rfl
      generalize w1.alloc (.cells #[.bool has, .bool nested, .bool false] 4) = w2 at *
      obtain ⟨bl, ebl⟩ : ∃ b, b = w1.heap.size := ⟨_, rfl⟩
      rw [← ebl] at hbl ⊢
      have Hbl := Lib.hid hbl
      have Hbx2 := Lib.hid (Hbx.out.below hB2 Hbx.out.lt)
      have HB2 := Lib.hid (HB.out.trans (hB2.mono HB.out.size))
      clear ebl hbl hB2 y0 y1 y2 y3 y4 y5 y6 y7 y8 y9 y10 kv
      obtain ⟨L, hL⟩ : ∃ L, L = ([has, nested, false] : List Bool) := ⟨_, rfl⟩
      have HL := Lib.hid hL
      have hLl : Hid (L.length = 3) := Lib.hid (by rw [hL]; rfl)
      clear hL
      go_loopw [3, 57] (fun t3 t57 wr => ∃ k : Nat, k ≤ 3 ∧ t57 = .int .i64 k ∧ t3 = .int .i64 ((L.take k).count true : Nat) ∧ wr = w2) (fun _ t57 _ => 3 - (intOf t57).toNat)
      case atStart => exact ⟨0, by decide, rfl, rfl, rfl⟩
      case round =>
        obtain ⟨k, hk, rfl, rfl, rfl⟩ := hrel
        have kk0 : (0 : Int) ≤ (k : Int) := by omega
        by_cases hlt : k < 3
        · have kkl : (k : Int) < 3 := by omega
          have hkL : k < L.length := by rw [hLl.out]; exact hlt
          have hc : wr.cell? ⟨bl, k, none⟩ = some (.bool L[k]) := by
            have h := Hbl.out.cells k (.bool L[k]) (by rw [show ([.bool has, .bool nested, .bool false] : List Value) = L.map .bool by rw [HL.out]; rfl]; simp [hkL])
            simpa using h
          have hcn : (L.take (k + 1)).count true = (L.take k).count true + (if L[k] = true then 1 else 0) := by rw [List.take_succ_eq_append_getElem hkL, List.count_append]; simp [List.count_singleton]
          have hc3 : (L.take k).count true ≤ 3 := Nat.le_trans List.count_le_length (by rw [List.length_take]; omega)
          have Hcn := Lib.hid hcn
          clear hcn
          obtain ⟨v, hv⟩ : ∃ v, v = L[k] := ⟨_, rfl⟩
          rw [← hv] at hc Hcn
          clear hv
          generalize (L.take k).count true = n at *
          cases v with
          | true =>
            go_wp2_with fail
            go_roundw
            case rel => exact ⟨k + 1, by omega, by go_num, by rw [Hcn.out]; go_num, by first | rfl | trivial⟩
            case measure => simp [intOf]; omega
          | false =>
            go_wp2_with fail
            go_roundw
            case rel => exact ⟨k + 1, by omega, by go_num, by rw [Hcn.out]; go_num, by first | rfl | trivial⟩
            case measure => simp [intOf]; omega
        · obtain rfl : k = 3 := by omega
          have l33 : ¬ ((3 : Nat) : Int) < 3 := by decide
          obtain ⟨m, hm⟩ : ∃ m, m = (L.take 3).count true := ⟨_, rfl⟩
          have Hm : Hid (m = List.count true [has, nested, decide (rc ≠ 0)]) := Lib.hid (by rw [hm, HL.out]; simp [hr0])
          rw [← hm]
          clear hm hlt hk
          have kv := Blk.runItem5 Hbx2.out
          obtain ⟨y0, y1, y2, y3, y4, y5, y6, y7, y8, y9, y10⟩ := item_cells Hbx2.out.cells
          simp only [Nat.zero_add] at y1 y2 y3 y4 y5 y6 y7 y8 y9 y10
          by_cases h1 : 1 < m
          · have h1i : (1 : Int) < (m : Int) := by omega
            have e : itOne (⟨false, attr, back, limit, has, dflt, nested, sub, rc⟩ : It) = false := by unfold itOne; simp only [Bool.false_eq_true, if_false]; rw [if_pos (by rw [← Hm.out]; exact h1)]
            have HR2 : Hid (∀ w', Below w.heap.size w w' → R (.returned (.bool false)) w') := Lib.hid (fun w' h => by have := HR.out w' h; rwa [e] at this)
            clear e
            have hr := HR2.out wr HB2.out
            go_wp2_with fail
            first | exact hr | exact fin hr rfl
          · have h1i : ¬ (1 : Int) < (m : Int) := by omega
            by_cases hw : wordB attr = true
            · have hw2 : mayB ⟨7, 0, attr⟩ = true := hw
              by_cases hl0 : limit < 0
              · have e : itOne (⟨false, attr, back, limit, has, dflt, nested, sub, rc⟩ : It) = false := by unfold itOne; simp only [Bool.false_eq_true, if_false]; rw [if_neg (by rw [← Hm.out]; exact h1)]; simp [hr0, hw, hl0]
                have HR2 : Hid (∀ w', Below w.heap.size w w' → R (.returned (.bool false)) w') := Lib.hid (fun w' h => by have := HR.out w' h; rwa [e] at this)
                clear e
                go_wp2_with fail
                refine shWord_any attr wr _ (fun w5 hB0 => ?_)
                clear y0 y1 y2 y3 y4 y5 y6 y7 y8 y9 y10 kv
                have Hbx5 := Lib.hid (Hbx2.out.below hB0 Hbx2.out.lt)
                have kv := Blk.runItem5 Hbx5.out
                obtain ⟨y0, y1, y2, y3, y4, y5, y6, y7, y8, y9, y10⟩ := item_cells Hbx5.out.cells
                simp only [Nat.zero_add] at y1 y2 y3 y4 y5 y6 y7 y8 y9 y10
                have HB5 := Lib.hid (HB2.out.trans (hB0.mono HB2.out.size))
                clear hB0
                go_wp2_with fail
                refine Check_any ⟨7, 0, attr⟩ w5 hsa _ (fun w6 hB1 => ?_)
                rw [hw2]
                clear y0 y1 y2 y3 y4 y5 y6 y7 y8 y9 y10 kv
                have Hbx6 := Lib.hid (Hbx5.out.below hB1 Hbx5.out.lt)
                have kv := Blk.runItem5 Hbx6.out
                obtain ⟨y0, y1, y2, y3, y4, y5, y6, y7, y8, y9, y10⟩ := item_cells Hbx6.out.cells
                simp only [Nat.zero_add] at y1 y2 y3 y4 y5 y6 y7 y8 y9 y10
                have HB6 := Lib.hid (HB5.out.trans (hB1.mono HB5.out.size))
                clear hB1
                have hr := HR2.out w6 HB6.out
                go_wp2_with fail
                first | exact hr | exact fin hr rfl
              · by_cases hl1 : 1000 < limit
                · have e : itOne (⟨false, attr, back, limit, has, dflt, nested, sub, rc⟩ : It) = false := by unfold itOne; simp only [Bool.false_eq_true, if_false]; rw [if_neg (by rw [← Hm.out]; exact h1)]; simp [hr0, hw, hl0, hl1]
                  have HR2 : Hid (∀ w', Below w.heap.size w w' → R (.returned (.bool false)) w') := Lib.hid (fun w' h => by have := HR.out w' h; rwa [e] at this)
                  clear e
                  go_wp2_with fail
                  refine shWord_any attr wr _ (fun w5 hB0 => ?_)
                  clear y0 y1 y2 y3 y4 y5 y6 y7 y8 y9 y10 kv
                  have Hbx5 := Lib.hid (Hbx2.out.below hB0 Hbx2.out.lt)
                  have kv := Blk.runItem5 Hbx5.out
                  obtain ⟨y0, y1, y2, y3, y4, y5, y6, y7, y8, y9, y10⟩ := item_cells Hbx5.out.cells
                  simp only [Nat.zero_add] at y1 y2 y3 y4 y5 y6 y7 y8 y9 y10
                  have HB5 := Lib.hid (HB2.out.trans (hB0.mono HB2.out.size))
                  clear hB0
                  go_wp2_with fail
                  refine Check_any ⟨7, 0, attr⟩ w5 hsa _ (fun w6 hB1 => ?_)
                  rw [hw2]
                  clear y0 y1 y2 y3 y4 y5 y6 y7 y8 y9 y10 kv
                  have Hbx6 := Lib.hid (Hbx5.out.below hB1 Hbx5.out.lt)
                  have kv := Blk.runItem5 Hbx6.out
                  obtain ⟨y0, y1, y2, y3, y4, y5, y6, y7, y8, y9, y10⟩ := item_cells Hbx6.out.cells
                  simp only [Nat.zero_add] at y1 y2 y3 y4 y5 y6 y7 y8 y9 y10
                  have HB6 := Lib.hid (HB5.out.trans (hB1.mono HB5.out.size))
                  clear hB1
                  have hr := HR2.out w6 HB6.out
                  go_wp2_with fail
                  first | exact hr | exact fin hr rfl
                · cases nested with
                  | true =>
                    cases has with
                    | true =>
                      by_cases hm : mayB dflt = true
                      · have e : itOne (⟨false, attr, back, limit, true, dflt, true, sub, rc⟩ : It) = true := by unfold itOne; simp only [Bool.false_eq_true, if_false]; rw [if_neg (by rw [← Hm.out]; exact h1)]; simp [hr0, hw, hl0, hl1, hm]
                        have HR2 : Hid (∀ w', Below w.heap.size w w' → R (.returned (.bool true)) w') := Lib.hid (fun w' h => by have := HR.out w' h; rwa [e] at this)
                        clear e
                        go_wp2_with fail
                        refine shWord_any attr wr _ (fun w5 hB0 => ?_)
                        clear y0 y1 y2 y3 y4 y5 y6 y7 y8 y9 y10 kv
                        have Hbx5 := Lib.hid (Hbx2.out.below hB0 Hbx2.out.lt)
                        have kv := Blk.runItem5 Hbx5.out
                        obtain ⟨y0, y1, y2, y3, y4, y5, y6, y7, y8, y9, y10⟩ := item_cells Hbx5.out.cells
                        simp only [Nat.zero_add] at y1 y2 y3 y4 y5 y6 y7 y8 y9 y10
                        have HB5 := Lib.hid (HB2.out.trans (hB0.mono HB2.out.size))
                        clear hB0
                        go_wp2_with fail
                        refine Check_any ⟨7, 0, attr⟩ w5 hsa _ (fun w6 hB1 => ?_)
                        rw [hw2]
                        clear y0 y1 y2 y3 y4 y5 y6 y7 y8 y9 y10 kv
                        have Hbx6 := Lib.hid (Hbx5.out.below hB1 Hbx5.out.lt)
                        have kv := Blk.runItem5 Hbx6.out
                        obtain ⟨y0, y1, y2, y3, y4, y5, y6, y7, y8, y9, y10⟩ := item_cells Hbx6.out.cells
                        simp only [Nat.zero_add] at y1 y2 y3 y4 y5 y6 y7 y8 y9 y10
                        have HB6 := Lib.hid (HB5.out.trans (hB1.mono HB5.out.size))
                        clear hB1
                        go_wp2_with fail
                        refine Check_any dflt w6 hsd _ (fun w7 hB2 => ?_)
                        rw [hm]
                        clear y0 y1 y2 y3 y4 y5 y6 y7 y8 y9 y10 kv
                        have Hbx7 := Lib.hid (Hbx6.out.below hB2 Hbx6.out.lt)
                        have kv := Blk.runItem5 Hbx7.out
                        obtain ⟨y0, y1, y2, y3, y4, y5, y6, y7, y8, y9, y10⟩ := item_cells Hbx7.out.cells
                        simp only [Nat.zero_add] at y1 y2 y3 y4 y5 y6 y7 y8 y9 y10
                        have HB7 := Lib.hid (HB6.out.trans (hB2.mono HB6.out.size))
                        clear hB2
                        have hr := HR2.out w7 HB7.out
                        go_wp2_with fail
                        first | exact hr | exact fin hr rfl
                      · replace hm : mayB dflt = false := by simpa using hm
                        have e : itOne (⟨false, attr, back, limit, true, dflt, true, sub, rc⟩ : It) = false := by unfold itOne; simp only [Bool.false_eq_true, if_false]; rw [if_neg (by rw [← Hm.out]; exact h1)]; simp [hr0, hw, hl0, hl1, hm]
                        have HR2 : Hid (∀ w', Below w.heap.size w w' → R (.returned (.bool false)) w') := Lib.hid (fun w' h => by have := HR.out w' h; rwa [e] at this)
                        clear e
                        go_wp2_with fail
                        refine shWord_any attr wr _ (fun w5 hB0 => ?_)
                        clear y0 y1 y2 y3 y4 y5 y6 y7 y8 y9 y10 kv
                        have Hbx5 := Lib.hid (Hbx2.out.below hB0 Hbx2.out.lt)
                        have kv := Blk.runItem5 Hbx5.out
                        obtain ⟨y0, y1, y2, y3, y4, y5, y6, y7, y8, y9, y10⟩ := item_cells Hbx5.out.cells
                        simp only [Nat.zero_add] at y1 y2 y3 y4 y5 y6 y7 y8 y9 y10
                        have HB5 := Lib.hid (HB2.out.trans (hB0.mono HB2.out.size))
                        clear hB0
                        go_wp2_with fail
                        refine Check_any ⟨7, 0, attr⟩ w5 hsa _ (fun w6 hB1 => ?_)
                        rw [hw2]
                        clear y0 y1 y2 y3 y4 y5 y6 y7 y8 y9 y10 kv
                        have Hbx6 := Lib.hid (Hbx5.out.below hB1 Hbx5.out.lt)
                        have kv := Blk.runItem5 Hbx6.out
                        obtain ⟨y0, y1, y2, y3, y4, y5, y6, y7, y8, y9, y10⟩ := item_cells Hbx6.out.cells
                        simp only [Nat.zero_add] at y1 y2 y3 y4 y5 y6 y7 y8 y9 y10
                        have HB6 := Lib.hid (HB5.out.trans (hB1.mono HB5.out.size))
                        clear hB1
                        go_wp2_with fail
                        refine Check_any dflt w6 hsd _ (fun w7 hB2 => ?_)
                        rw [hm]
                        clear y0 y1 y2 y3 y4 y5 y6 y7 y8 y9 y10 kv
                        have Hbx7 := Lib.hid (Hbx6.out.below hB2 Hbx6.out.lt)
                        have kv := Blk.runItem5 Hbx7.out
                        obtain ⟨y0, y1, y2, y3, y4, y5, y6, y7, y8, y9, y10⟩ := item_cells Hbx7.out.cells
                        simp only [Nat.zero_add] at y1 y2 y3 y4 y5 y6 y7 y8 y9 y10
                        have HB7 := Lib.hid (HB6.out.trans (hB2.mono HB6.out.size))
                        clear hB2
                        have hr := HR2.out w7 HB7.out
                        go_wp2_with fail
                        first | exact hr | exact fin hr rfl
                    | false =>
                      by_cases hd : b = true
                      · have Hd2 : Hid (dflt = zeroV) := Lib.hid (by have hb := Hb.out; rw [hd] at hb; exact of_decide_eq_true hb.symm)
                        subst hd
                        have e : itOne (⟨false, attr, back, limit, false, dflt, true, sub, rc⟩ : It) = true := by unfold itOne; simp only [Bool.false_eq_true, if_false]; rw [if_neg (by rw [← Hm.out]; exact h1)]; simp [hr0, hw, hl0, hl1, Hd2.out]
                        have HR2 : Hid (∀ w', Below w.heap.size w w' → R (.returned (.bool true)) w') := Lib.hid (fun w' h => by have := HR.out w' h; rwa [e] at this)
                        clear e
                        go_wp2_with fail
                        refine shWord_any attr wr _ (fun w5 hB0 => ?_)
                        clear y0 y1 y2 y3 y4 y5 y6 y7 y8 y9 y10 kv
                        have Hbx5 := Lib.hid (Hbx2.out.below hB0 Hbx2.out.lt)
                        have kv := Blk.runItem5 Hbx5.out
                        obtain ⟨y0, y1, y2, y3, y4, y5, y6, y7, y8, y9, y10⟩ := item_cells Hbx5.out.cells
                        simp only [Nat.zero_add] at y1 y2 y3 y4 y5 y6 y7 y8 y9 y10
                        have HB5 := Lib.hid (HB2.out.trans (hB0.mono HB2.out.size))
                        clear hB0
                        go_wp2_with fail
                        refine Check_any ⟨7, 0, attr⟩ w5 hsa _ (fun w6 hB1 => ?_)
                        rw [hw2]
                        clear y0 y1 y2 y3 y4 y5 y6 y7 y8 y9 y10 kv
                        have Hbx6 := Lib.hid (Hbx5.out.below hB1 Hbx5.out.lt)
                        have kv := Blk.runItem5 Hbx6.out
                        obtain ⟨y0, y1, y2, y3, y4, y5, y6, y7, y8, y9, y10⟩ := item_cells Hbx6.out.cells
                        simp only [Nat.zero_add] at y1 y2 y3 y4 y5 y6 y7 y8 y9 y10
                        have HB6 := Lib.hid (HB5.out.trans (hB1.mono HB5.out.size))
                        clear hB1
                        have hr := HR2.out w6 HB6.out
                        go_wp2_with fail
                        first | exact hr | exact fin hr rfl
                      · have Hd2 : Hid (¬ dflt = zeroV) := Lib.hid (fun h => hd (by rw [Hb.out, decide_eq_true h]))
                        obtain rfl : b = false := by simpa using hd
                        have e : itOne (⟨false, attr, back, limit, false, dflt, true, sub, rc⟩ : It) = false := by unfold itOne; simp only [Bool.false_eq_true, if_false]; rw [if_neg (by rw [← Hm.out]; exact h1)]; simp [hr0, hw, hl0, hl1, Hd2.out]
                        have HR2 : Hid (∀ w', Below w.heap.size w w' → R (.returned (.bool false)) w') := Lib.hid (fun w' h => by have := HR.out w' h; rwa [e] at this)
                        clear e
                        go_wp2_with fail
                        refine shWord_any attr wr _ (fun w5 hB0 => ?_)
                        clear y0 y1 y2 y3 y4 y5 y6 y7 y8 y9 y10 kv
                        have Hbx5 := Lib.hid (Hbx2.out.below hB0 Hbx2.out.lt)
                        have kv := Blk.runItem5 Hbx5.out
                        obtain ⟨y0, y1, y2, y3, y4, y5, y6, y7, y8, y9, y10⟩ := item_cells Hbx5.out.cells
                        simp only [Nat.zero_add] at y1 y2 y3 y4 y5 y6 y7 y8 y9 y10
                        have HB5 := Lib.hid (HB2.out.trans (hB0.mono HB2.out.size))
                        clear hB0
                        go_wp2_with fail
                        refine Check_any ⟨7, 0, attr⟩ w5 hsa _ (fun w6 hB1 => ?_)
                        rw [hw2]
                        clear y0 y1 y2 y3 y4 y5 y6 y7 y8 y9 y10 kv
                        have Hbx6 := Lib.hid (Hbx5.out.below hB1 Hbx5.out.lt)
                        have kv := Blk.runItem5 Hbx6.out
                        obtain ⟨y0, y1, y2, y3, y4, y5, y6, y7, y8, y9, y10⟩ := item_cells Hbx6.out.cells
                        simp only [Nat.zero_add] at y1 y2 y3 y4 y5 y6 y7 y8 y9 y10
                        have HB6 := Lib.hid (HB5.out.trans (hB1.mono HB5.out.size))
                        clear hB1
                        have hr := HR2.out w6 HB6.out
                        go_wp2_with fail
                        first | exact hr | exact fin hr rfl
                  | false =>
                    by_cases hs0 : 0 < sub.length
                    · have hs0i : (0 : Int) < (sub.length : Int) := by omega
                      have e : itOne (⟨false, attr, back, limit, has, dflt, false, sub, rc⟩ : It) = false := by unfold itOne; simp only [Bool.false_eq_true, if_false]; rw [if_neg (by rw [← Hm.out]; exact h1)]; simp [hr0, hw, hl0, hl1, hs0]
                      have HR2 : Hid (∀ w', Below w.heap.size w w' → R (.returned (.bool false)) w') := Lib.hid (fun w' h => by have := HR.out w' h; rwa [e] at this)
                      clear e
                      go_wp2_with fail
                      refine shWord_any attr wr _ (fun w5 hB0 => ?_)
                      clear y0 y1 y2 y3 y4 y5 y6 y7 y8 y9 y10 kv
                      have Hbx5 := Lib.hid (Hbx2.out.below hB0 Hbx2.out.lt)
                      have kv := Blk.runItem5 Hbx5.out
                      obtain ⟨y0, y1, y2, y3, y4, y5, y6, y7, y8, y9, y10⟩ := item_cells Hbx5.out.cells
                      simp only [Nat.zero_add] at y1 y2 y3 y4 y5 y6 y7 y8 y9 y10
                      have HB5 := Lib.hid (HB2.out.trans (hB0.mono HB2.out.size))
                      clear hB0
                      go_wp2_with fail
                      refine Check_any ⟨7, 0, attr⟩ w5 hsa _ (fun w6 hB1 => ?_)
                      rw [hw2]
                      clear y0 y1 y2 y3 y4 y5 y6 y7 y8 y9 y10 kv
                      have Hbx6 := Lib.hid (Hbx5.out.below hB1 Hbx5.out.lt)
                      have kv := Blk.runItem5 Hbx6.out
                      obtain ⟨y0, y1, y2, y3, y4, y5, y6, y7, y8, y9, y10⟩ := item_cells Hbx6.out.cells
                      simp only [Nat.zero_add] at y1 y2 y3 y4 y5 y6 y7 y8 y9 y10
                      have HB6 := Lib.hid (HB5.out.trans (hB1.mono HB5.out.size))
                      clear hB1
                      have hr := HR2.out w6 HB6.out
                      go_wp2_with fail
                      first | exact hr | exact fin hr rfl
                    · have hs0i : ¬ (0 : Int) < (sub.length : Int) := by omega
                      cases has with
                      | true =>
                        by_cases hm : mayB dflt = true
                        · have e : itOne (⟨false, attr, back, limit, true, dflt, false, sub, rc⟩ : It) = true := by unfold itOne; simp only [Bool.false_eq_true, if_false]; rw [if_neg (by rw [← Hm.out]; exact h1)]; simp [hr0, hw, hl0, hl1, hs0, hm]
                          have HR2 : Hid (∀ w', Below w.heap.size w w' → R (.returned (.bool true)) w') := Lib.hid (fun w' h => by have := HR.out w' h; rwa [e] at this)
                          clear e
                          go_wp2_with fail
                          refine shWord_any attr wr _ (fun w5 hB0 => ?_)
                          clear y0 y1 y2 y3 y4 y5 y6 y7 y8 y9 y10 kv
                          have Hbx5 := Lib.hid (Hbx2.out.below hB0 Hbx2.out.lt)
                          have kv := Blk.runItem5 Hbx5.out
                          obtain ⟨y0, y1, y2, y3, y4, y5, y6, y7, y8, y9, y10⟩ := item_cells Hbx5.out.cells
                          simp only [Nat.zero_add] at y1 y2 y3 y4 y5 y6 y7 y8 y9 y10
                          have HB5 := Lib.hid (HB2.out.trans (hB0.mono HB2.out.size))
                          clear hB0
                          go_wp2_with fail
                          refine Check_any ⟨7, 0, attr⟩ w5 hsa _ (fun w6 hB1 => ?_)
                          rw [hw2]
                          clear y0 y1 y2 y3 y4 y5 y6 y7 y8 y9 y10 kv
                          have Hbx6 := Lib.hid (Hbx5.out.below hB1 Hbx5.out.lt)
                          have kv := Blk.runItem5 Hbx6.out
                          obtain ⟨y0, y1, y2, y3, y4, y5, y6, y7, y8, y9, y10⟩ := item_cells Hbx6.out.cells
                          simp only [Nat.zero_add] at y1 y2 y3 y4 y5 y6 y7 y8 y9 y10
                          have HB6 := Lib.hid (HB5.out.trans (hB1.mono HB5.out.size))
                          clear hB1
                          go_wp2_with fail
                          refine Check_any dflt w6 hsd _ (fun w7 hB2 => ?_)
                          rw [hm]
                          clear y0 y1 y2 y3 y4 y5 y6 y7 y8 y9 y10 kv
                          have Hbx7 := Lib.hid (Hbx6.out.below hB2 Hbx6.out.lt)
                          have kv := Blk.runItem5 Hbx7.out
                          obtain ⟨y0, y1, y2, y3, y4, y5, y6, y7, y8, y9, y10⟩ := item_cells Hbx7.out.cells
                          simp only [Nat.zero_add] at y1 y2 y3 y4 y5 y6 y7 y8 y9 y10
                          have HB7 := Lib.hid (HB6.out.trans (hB2.mono HB6.out.size))
                          clear hB2
                          have hr := HR2.out w7 HB7.out
                          go_wp2_with fail
                          first | exact hr | exact fin hr rfl
                        · replace hm : mayB dflt = false := by simpa using hm
                          have e : itOne (⟨false, attr, back, limit, true, dflt, false, sub, rc⟩ : It) = false := by unfold itOne; simp only [Bool.false_eq_true, if_false]; rw [if_neg (by rw [← Hm.out]; exact h1)]; simp [hr0, hw, hl0, hl1, hs0, hm]
                          have HR2 : Hid (∀ w', Below w.heap.size w w' → R (.returned (.bool false)) w') := Lib.hid (fun w' h => by have := HR.out w' h; rwa [e] at this)
                          clear e
                          go_wp2_with fail
                          refine shWord_any attr wr _ (fun w5 hB0 => ?_)
                          clear y0 y1 y2 y3 y4 y5 y6 y7 y8 y9 y10 kv
                          have Hbx5 := Lib.hid (Hbx2.out.below hB0 Hbx2.out.lt)
                          have kv := Blk.runItem5 Hbx5.out
                          obtain ⟨y0, y1, y2, y3, y4, y5, y6, y7, y8, y9, y10⟩ := item_cells Hbx5.out.cells
                          simp only [Nat.zero_add] at y1 y2 y3 y4 y5 y6 y7 y8 y9 y10
                          have HB5 := Lib.hid (HB2.out.trans (hB0.mono HB2.out.size))
                          clear hB0
                          go_wp2_with fail
                          refine Check_any ⟨7, 0, attr⟩ w5 hsa _ (fun w6 hB1 => ?_)
                          rw [hw2]
                          clear y0 y1 y2 y3 y4 y5 y6 y7 y8 y9 y10 kv
                          have Hbx6 := Lib.hid (Hbx5.out.below hB1 Hbx5.out.lt)
                          have kv := Blk.runItem5 Hbx6.out
                          obtain ⟨y0, y1, y2, y3, y4, y5, y6, y7, y8, y9, y10⟩ := item_cells Hbx6.out.cells
                          simp only [Nat.zero_add] at y1 y2 y3 y4 y5 y6 y7 y8 y9 y10
                          have HB6 := Lib.hid (HB5.out.trans (hB1.mono HB5.out.size))
                          clear hB1
                          go_wp2_with fail
                          refine Check_any dflt w6 hsd _ (fun w7 hB2 => ?_)
                          rw [hm]
                          clear y0 y1 y2 y3 y4 y5 y6 y7 y8 y9 y10 kv
                          have Hbx7 := Lib.hid (Hbx6.out.below hB2 Hbx6.out.lt)
                          have kv := Blk.runItem5 Hbx7.out
                          obtain ⟨y0, y1, y2, y3, y4, y5, y6, y7, y8, y9, y10⟩ := item_cells Hbx7.out.cells
                          simp only [Nat.zero_add] at y1 y2 y3 y4 y5 y6 y7 y8 y9 y10
                          have HB7 := Lib.hid (HB6.out.trans (hB2.mono HB6.out.size))
                          clear hB2
                          have hr := HR2.out w7 HB7.out
                          go_wp2_with fail
                          first | exact hr | exact fin hr rfl
                      | false =>
                        by_cases hd : b = true
                        · have Hd2 : Hid (dflt = zeroV) := Lib.hid (by have hb := Hb.out; rw [hd] at hb; exact of_decide_eq_true hb.symm)
                          subst hd
                          have e : itOne (⟨false, attr, back, limit, false, dflt, false, sub, rc⟩ : It) = true := by unfold itOne; simp only [Bool.false_eq_true, if_false]; rw [if_neg (by rw [← Hm.out]; exact h1)]; simp [hr0, hw, hl0, hl1, hs0, Hd2.out]
                          have HR2 : Hid (∀ w', Below w.heap.size w w' → R (.returned (.bool true)) w') := Lib.hid (fun w' h => by have := HR.out w' h; rwa [e] at this)
                          clear e
                          go_wp2_with fail
                          refine shWord_any attr wr _ (fun w5 hB0 => ?_)
                          clear y0 y1 y2 y3 y4 y5 y6 y7 y8 y9 y10 kv
                          have Hbx5 := Lib.hid (Hbx2.out.below hB0 Hbx2.out.lt)
                          have kv := Blk.runItem5 Hbx5.out
                          obtain ⟨y0, y1, y2, y3, y4, y5, y6, y7, y8, y9, y10⟩ := item_cells Hbx5.out.cells
                          simp only [Nat.zero_add] at y1 y2 y3 y4 y5 y6 y7 y8 y9 y10
                          have HB5 := Lib.hid (HB2.out.trans (hB0.mono HB2.out.size))
                          clear hB0
                          go_wp2_with fail
                          refine Check_any ⟨7, 0, attr⟩ w5 hsa _ (fun w6 hB1 => ?_)
                          rw [hw2]
                          clear y0 y1 y2 y3 y4 y5 y6 y7 y8 y9 y10 kv
                          have Hbx6 := Lib.hid (Hbx5.out.below hB1 Hbx5.out.lt)
                          have kv := Blk.runItem5 Hbx6.out
                          obtain ⟨y0, y1, y2, y3, y4, y5, y6, y7, y8, y9, y10⟩ := item_cells Hbx6.out.cells
                          simp only [Nat.zero_add] at y1 y2 y3 y4 y5 y6 y7 y8 y9 y10
                          have HB6 := Lib.hid (HB5.out.trans (hB1.mono HB5.out.size))
                          clear hB1
                          have hr := HR2.out w6 HB6.out
                          go_wp2_with fail
                          first | exact hr | exact fin hr rfl
                        · have Hd2 : Hid (¬ dflt = zeroV) := Lib.hid (fun h => hd (by rw [Hb.out, decide_eq_true h]))
                          obtain rfl : b = false := by simpa using hd
                          have e : itOne (⟨false, attr, back, limit, false, dflt, false, sub, rc⟩ : It) = false := by unfold itOne; simp only [Bool.false_eq_true, if_false]; rw [if_neg (by rw [← Hm.out]; exact h1)]; simp [hr0, hw, hl0, hl1, hs0, Hd2.out]
                          have HR2 : Hid (∀ w', Below w.heap.size w w' → R (.returned (.bool false)) w') := Lib.hid (fun w' h => by have := HR.out w' h; rwa [e] at this)
                          clear e
                          go_wp2_with fail
                          refine shWord_any attr wr _ (fun w5 hB0 => ?_)
                          clear y0 y1 y2 y3 y4 y5 y6 y7 y8 y9 y10 kv
                          have Hbx5 := Lib.hid (Hbx2.out.below hB0 Hbx2.out.lt)
                          have kv := Blk.runItem5 Hbx5.out
                          obtain ⟨y0, y1, y2, y3, y4, y5, y6, y7, y8, y9, y10⟩ := item_cells Hbx5.out.cells
                          simp only [Nat.zero_add] at y1 y2 y3 y4 y5 y6 y7 y8 y9 y10
                          have HB5 := Lib.hid (HB2.out.trans (hB0.mono HB2.out.size))
                          clear hB0
                          go_wp2_with fail
                          refine Check_any ⟨7, 0, attr⟩ w5 hsa _ (fun w6 hB1 => ?_)
                          rw [hw2]
                          clear y0 y1 y2 y3 y4 y5 y6 y7 y8 y9 y10 kv
                          have Hbx6 := Lib.hid (Hbx5.out.below hB1 Hbx5.out.lt)
                          have kv := Blk.runItem5 Hbx6.out
                          obtain ⟨y0, y1, y2, y3, y4, y5, y6, y7, y8, y9, y10⟩ := item_cells Hbx6.out.cells
                          simp only [Nat.zero_add] at y1 y2 y3 y4 y5 y6 y7 y8 y9 y10
                          have HB6 := Lib.hid (HB5.out.trans (hB1.mono HB5.out.size))
                          clear hB1
                          have hr := HR2.out w6 HB6.out
                          go_wp2_with fail
                          first | exact hr | exact fin hr rfl
            · replace hw : wordB attr = false := by simpa using hw
              have hw2 : mayB ⟨7, 0, attr⟩ = false := hw
              have e : itOne (⟨false, attr, back, limit, has, dflt, nested, sub, rc⟩ : It) = false := by unfold itOne; simp only [Bool.false_eq_true, if_false]; rw [if_neg (by rw [← Hm.out]; exact h1)]; simp [hr0, hw]
              have HR2 : Hid (∀ w', Below w.heap.size w w' → R (.returned (.bool false)) w') := Lib.hid (fun w' h => by have := HR.out w' h; rwa [e] at this)
              clear e
              go_wp2_with fail
              refine shWord_any attr wr _ (fun w5 hB0 => ?_)
              clear y0 y1 y2 y3 y4 y5 y6 y7 y8 y9 y10 kv
              have Hbx5 := Lib.hid (Hbx2.out.below hB0 Hbx2.out.lt)
              have kv := Blk.runItem5 Hbx5.out
              obtain ⟨y0, y1, y2, y3, y4, y5, y6, y7, y8, y9, y10⟩ := item_cells Hbx5.out.cells
              simp only [Nat.zero_add] at y1 y2 y3 y4 y5 y6 y7 y8 y9 y10
              have HB5 := Lib.hid (HB2.out.trans (hB0.mono HB2.out.size))
              clear hB0
              go_wp2_with fail
              refine Check_any ⟨7, 0, attr⟩ w5 hsa _ (fun w6 hB1 => ?_)
              rw [hw2]
              clear y0 y1 y2 y3 y4 y5 y6 y7 y8 y9 y10 kv
              have Hbx6 := Lib.hid (Hbx5.out.below hB1 Hbx5.out.lt)
              have kv := Blk.runItem5 Hbx6.out
              obtain ⟨y0, y1, y2, y3, y4, y5, y6, y7, y8, y9, y10⟩ := item_cells Hbx6.out.cells
              simp only [Nat.zero_add] at y1 y2 y3 y4 y5 y6 y7 y8 y9 y10
              have HB6 := Lib.hid (HB5.out.trans (hB1.mono HB5.out.size))
              clear hB1
              have hr := HR2.out w6 HB6.out
              go_wp2_with fail
              first | exact hr | exact fin hr rfl
    · have hr0e : (rc == 0) = false := by simpa using hr0
      have hr0n : (rc != 0) = true := by simpa using hr0
      go_wp2_with fail
      have hB2 := alloc_below w1 (.cells #[.bool has, .bool nested, .bool true] 4)
      have hbl := Blk.new w1 [.bool has, .bool nested, .bool true] 4 rfl
      generalize w1.alloc (.cells #[.bool has, .bool nested, .bool true] 4) = w2 at *
      obtain ⟨bl, ebl⟩ : ∃ b, b = w1.heap.size := ⟨_, rfl⟩
      rw [← ebl] at hbl ⊢
      have Hbl := Lib.hid hbl
      have Hbx2 := Lib.hid (Hbx.out.below hB2 Hbx.out.lt)
      have HB2 := Lib.hid (HB.out.trans (hB2.mono HB.out.size))
      clear ebl hbl hB2 y0 y1 y2 y3 y4 y5 y6 y7 y8 y9 y10 kv
      obtain ⟨L, hL⟩ : ∃ L, L = ([has, nested, true] : List Bool) := ⟨_, rfl⟩
      have HL := Lib.hid hL
      have hLl : Hid (L.length = 3) := Lib.hid (by rw [hL]; rfl)
      clear hL
      go_loopw [3, 57] (fun t3 t57 wr => ∃ k : Nat, k ≤ 3 ∧ t57 = .int .i64 k ∧ t3 = .int .i64 ((L.take k).count true : Nat) ∧ wr = w2) (fun _ t57 _ => 3 - (intOf t57).toNat)
      case atStart => exact ⟨0, by decide, rfl, rfl, rfl⟩
      case round =>
        obtain ⟨k, hk, rfl, rfl, rfl⟩ := hrel
        have kk0 : (0 : Int) ≤ (k : Int) := by omega
        by_cases hlt : k < 3
        · have kkl : (k : Int) < 3 := by omega
          have hkL : k < L.length := by rw [hLl.out]; exact hlt
          have hc : wr.cell? ⟨bl, k, none⟩ = some (.bool L[k]) := by
            have h := Hbl.out.cells k (.bool L[k]) (by rw [show ([.bool has, .bool nested, .bool true] : List Value) = L.map .bool by rw [HL.out]; rfl]; simp [hkL])
            simpa using h
          have hcn : (L.take (k + 1)).count true = (L.take k).count true + (if L[k] = true then 1 else 0) := by rw [List.take_succ_eq_append_getElem hkL, List.count_append]; simp [List.count_singleton]
          have hc3 : (L.take k).count true ≤ 3 := Nat.le_trans List.count_le_length (by rw [List.length_take]; omega)
          have Hcn := Lib.hid hcn
          clear hcn
          obtain ⟨v, hv⟩ : ∃ v, v = L[k] := ⟨_, rfl⟩
          rw [← hv] at hc Hcn
          clear hv
          generalize (L.take k).count true = n at *
          cases v with
          | true =>
            go_wp2_with fail
            go_roundw
            case rel => exact ⟨k + 1, by omega, by go_num, by rw [Hcn.out]; go_num, by first | rfl | trivial⟩
            case measure => simp [intOf]; omega
          | false =>
            go_wp2_with fail
            go_roundw
            case rel => exact ⟨k + 1, by omega, by go_num, by rw [Hcn.out]; go_num, by first | rfl | trivial⟩
            case measure => simp [intOf]; omega
        · obtain rfl : k = 3 := by omega
          have l33 : ¬ ((3 : Nat) : Int) < 3 := by decide
          obtain ⟨m, hm⟩ : ∃ m, m = (L.take 3).count true := ⟨_, rfl⟩
          have Hm : Hid (m = List.count true [has, nested, decide (rc ≠ 0)]) := Lib.hid (by rw [hm, HL.out]; simp [hr0])
          rw [← hm]
          clear hm hlt hk
          have kv := Blk.runItem5 Hbx2.out
          obtain ⟨y0, y1, y2, y3, y4, y5, y6, y7, y8, y9, y10⟩ := item_cells Hbx2.out.cells
          simp only [Nat.zero_add] at y1 y2 y3 y4 y5 y6 y7 y8 y9 y10
          by_cases h1 : 1 < m
          · have h1i : (1 : Int) < (m : Int) := by omega
            have e : itOne (⟨false, attr, back, limit, has, dflt, nested, sub, rc⟩ : It) = false := by unfold itOne; simp only [Bool.false_eq_true, if_false]; rw [if_pos (by rw [← Hm.out]; exact h1)]
            have HR2 : Hid (∀ w', Below w.heap.size w w' → R (.returned (.bool false)) w') := Lib.hid (fun w' h => by have := HR.out w' h; rwa [e] at this)
            clear e
            have hr := HR2.out wr HB2.out
            go_wp2_with fail
            first | exact hr | exact fin hr rfl
          · have h1i : ¬ (1 : Int) < (m : Int) := by omega
            by_cases hw : wordB attr = true
            · have hw2 : mayB ⟨7, 0, attr⟩ = true := hw
              by_cases hl0 : limit < 0
              · have e : itOne (⟨false, attr, back, limit, has, dflt, nested, sub, rc⟩ : It) = false := by unfold itOne; simp only [Bool.false_eq_true, if_false]; rw [if_neg (by rw [← Hm.out]; exact h1)]; simp [hr0, hw, hl0]
                have HR2 : Hid (∀ w', Below w.heap.size w w' → R (.returned (.bool false)) w') := Lib.hid (fun w' h => by have := HR.out w' h; rwa [e] at this)
                clear e
                go_wp2_with fail
                refine shWord_any attr wr _ (fun w5 hB0 => ?_)
                clear y0 y1 y2 y3 y4 y5 y6 y7 y8 y9 y10 kv
                have Hbx5 := Lib.hid (Hbx2.out.below hB0 Hbx2.out.lt)
                have kv := Blk.runItem5 Hbx5.out
                obtain ⟨y0, y1, y2, y3, y4, y5, y6, y7, y8, y9, y10⟩ := item_cells Hbx5.out.cells
                simp only [Nat.zero_add] at y1 y2 y3 y4 y5 y6 y7 y8 y9 y10
                have HB5 := Lib.hid (HB2.out.trans (hB0.mono HB2.out.size))
                clear hB0
                go_wp2_with fail
                refine Check_any ⟨7, 0, attr⟩ w5 hsa _ (fun w6 hB1 => ?_)
                rw [hw2]
                clear y0 y1 y2 y3 y4 y5 y6 y7 y8 y9 y10 kv
                have Hbx6 := Lib.hid (Hbx5.out.below hB1 Hbx5.out.lt)
                have kv := Blk.runItem5 Hbx6.out
                obtain ⟨y0, y1, y2, y3, y4, y5, y6, y7, y8, y9, y10⟩ := item_cells Hbx6.out.cells
                simp only [Nat.zero_add] at y1 y2 y3 y4 y5 y6 y7 y8 y9 y10
                have HB6 := Lib.hid (HB5.out.trans (hB1.mono HB5.out.size))
                clear hB1
                have hr := HR2.out w6 HB6.out
                go_wp2_with fail
                first | exact hr | exact fin hr rfl
              · by_cases hl1 : 1000 < limit
                · have e : itOne (⟨false, attr, back, limit, has, dflt, nested, sub, rc⟩ : It) = false := by unfold itOne; simp only [Bool.false_eq_true, if_false]; rw [if_neg (by rw [← Hm.out]; exact h1)]; simp [hr0, hw, hl0, hl1]
                  have HR2 : Hid (∀ w', Below w.heap.size w w' → R (.returned (.bool false)) w') := Lib.hid (fun w' h => by have := HR.out w' h; rwa [e] at this)
                  clear e
                  go_wp2_with fail
                  refine shWord_any attr wr _ (fun w5 hB0 => ?_)
                  clear y0 y1 y2 y3 y4 y5 y6 y7 y8 y9 y10 kv
                  have Hbx5 := Lib.hid (Hbx2.out.below hB0 Hbx2.out.lt)
                  have kv := Blk.runItem5 Hbx5.out
                  obtain ⟨y0, y1, y2, y3, y4, y5, y6, y7, y8, y9, y10⟩ := item_cells Hbx5.out.cells
                  simp only [Nat.zero_add] at y1 y2 y3 y4 y5 y6 y7 y8 y9 y10
                  have HB5 := Lib.hid (HB2.out.trans (hB0.mono HB2.out.size))
                  clear hB0
                  go_wp2_with fail
                  refine Check_any ⟨7, 0, attr⟩ w5 hsa _ (fun w6 hB1 => ?_)
                  rw [hw2]
                  clear y0 y1 y2 y3 y4 y5 y6 y7 y8 y9 y10 kv
                  have Hbx6 := Lib.hid (Hbx5.out.below hB1 Hbx5.out.lt)
                  have kv := Blk.runItem5 Hbx6.out
                  obtain ⟨y0, y1, y2, y3, y4, y5, y6, y7, y8, y9, y10⟩ := item_cells Hbx6.out.cells
                  simp only [Nat.zero_add] at y1 y2 y3 y4 y5 y6 y7 y8 y9 y10
                  have HB6 := Lib.hid (HB5.out.trans (hB1.mono HB5.out.size))
                  clear hB1
                  have hr := HR2.out w6 HB6.out
                  go_wp2_with fail
                  first | exact hr | exact fin hr rfl
                · by_cases hr1 : rc < -1
                  · have e : itOne (⟨false, attr, back, limit, has, dflt, nested, sub, rc⟩ : It) = false := by unfold itOne; simp only [Bool.false_eq_true, if_false]; rw [if_neg (by rw [← Hm.out]; exact h1)]; simp [hr0, hw, hl0, hl1, hr1]
                    have HR2 : Hid (∀ w', Below w.heap.size w w' → R (.returned (.bool false)) w') := Lib.hid (fun w' h => by have := HR.out w' h; rwa [e] at this)
                    clear e
                    go_wp2_with fail
                    refine shWord_any attr wr _ (fun w5 hB0 => ?_)
                    clear y0 y1 y2 y3 y4 y5 y6 y7 y8 y9 y10 kv
                    have Hbx5 := Lib.hid (Hbx2.out.below hB0 Hbx2.out.lt)
                    have kv := Blk.runItem5 Hbx5.out
                    obtain ⟨y0, y1, y2, y3, y4, y5, y6, y7, y8, y9, y10⟩ := item_cells Hbx5.out.cells
                    simp only [Nat.zero_add] at y1 y2 y3 y4 y5 y6 y7 y8 y9 y10
                    have HB5 := Lib.hid (HB2.out.trans (hB0.mono HB2.out.size))
                    clear hB0
                    go_wp2_with fail
                    refine Check_any ⟨7, 0, attr⟩ w5 hsa _ (fun w6 hB1 => ?_)
                    rw [hw2]
                    clear y0 y1 y2 y3 y4 y5 y6 y7 y8 y9 y10 kv
                    have Hbx6 := Lib.hid (Hbx5.out.below hB1 Hbx5.out.lt)
                    have kv := Blk.runItem5 Hbx6.out
                    obtain ⟨y0, y1, y2, y3, y4, y5, y6, y7, y8, y9, y10⟩ := item_cells Hbx6.out.cells
                    simp only [Nat.zero_add] at y1 y2 y3 y4 y5 y6 y7 y8 y9 y10
                    have HB6 := Lib.hid (HB5.out.trans (hB1.mono HB5.out.size))
                    clear hB1
                    have hr := HR2.out w6 HB6.out
                    go_wp2_with fail
                    first | exact hr | exact fin hr rfl
                  · by_cases hr2 : 100 < rc
                    · have e : itOne (⟨false, attr, back, limit, has, dflt, nested, sub, rc⟩ : It) = false := by unfold itOne; simp only [Bool.false_eq_true, if_false]; rw [if_neg (by rw [← Hm.out]; exact h1)]; simp [hr0, hw, hl0, hl1, hr1, hr2]
                      have HR2 : Hid (∀ w', Below w.heap.size w w' → R (.returned (.bool false)) w') := Lib.hid (fun w' h => by have := HR.out w' h; rwa [e] at this)
                      clear e
                      go_wp2_with fail
                      refine shWord_any attr wr _ (fun w5 hB0 => ?_)
                      clear y0 y1 y2 y3 y4 y5 y6 y7 y8 y9 y10 kv
                      have Hbx5 := Lib.hid (Hbx2.out.below hB0 Hbx2.out.lt)
                      have kv := Blk.runItem5 Hbx5.out
                      obtain ⟨y0, y1, y2, y3, y4, y5, y6, y7, y8, y9, y10⟩ := item_cells Hbx5.out.cells
                      simp only [Nat.zero_add] at y1 y2 y3 y4 y5 y6 y7 y8 y9 y10
                      have HB5 := Lib.hid (HB2.out.trans (hB0.mono HB2.out.size))
                      clear hB0
                      go_wp2_with fail
                      refine Check_any ⟨7, 0, attr⟩ w5 hsa _ (fun w6 hB1 => ?_)
                      rw [hw2]
                      clear y0 y1 y2 y3 y4 y5 y6 y7 y8 y9 y10 kv
                      have Hbx6 := Lib.hid (Hbx5.out.below hB1 Hbx5.out.lt)
                      have kv := Blk.runItem5 Hbx6.out
                      obtain ⟨y0, y1, y2, y3, y4, y5, y6, y7, y8, y9, y10⟩ := item_cells Hbx6.out.cells
                      simp only [Nat.zero_add] at y1 y2 y3 y4 y5 y6 y7 y8 y9 y10
                      have HB6 := Lib.hid (HB5.out.trans (hB1.mono HB5.out.size))
                      clear hB1
                      have hr := HR2.out w6 HB6.out
                      go_wp2_with fail
                      first | exact hr | exact fin hr rfl
                    · cases nested with
                      | true =>
                        cases has with
                        | true =>
                          by_cases hm : mayB dflt = true
                          · have e : itOne (⟨false, attr, back, limit, true, dflt, true, sub, rc⟩ : It) = true := by unfold itOne; simp only [Bool.false_eq_true, if_false]; rw [if_neg (by rw [← Hm.out]; exact h1)]; simp [hr0, hw, hl0, hl1, hr1, hr2, hm]
                            have HR2 : Hid (∀ w', Below w.heap.size w w' → R (.returned (.bool true)) w') := Lib.hid (fun w' h => by have := HR.out w' h; rwa [e] at this)
                            clear e
                            go_wp2_with fail
                            refine shWord_any attr wr _ (fun w5 hB0 => ?_)
                            clear y0 y1 y2 y3 y4 y5 y6 y7 y8 y9 y10 kv
                            have Hbx5 := Lib.hid (Hbx2.out.below hB0 Hbx2.out.lt)
                            have kv := Blk.runItem5 Hbx5.out
                            obtain ⟨y0, y1, y2, y3, y4, y5, y6, y7, y8, y9, y10⟩ := item_cells Hbx5.out.cells
                            simp only [Nat.zero_add] at y1 y2 y3 y4 y5 y6 y7 y8 y9 y10
                            have HB5 := Lib.hid (HB2.out.trans (hB0.mono HB2.out.size))
                            clear hB0
                            go_wp2_with fail
                            refine Check_any ⟨7, 0, attr⟩ w5 hsa _ (fun w6 hB1 => ?_)
                            rw [hw2]
                            clear y0 y1 y2 y3 y4 y5 y6 y7 y8 y9 y10 kv
                            have Hbx6 := Lib.hid (Hbx5.out.below hB1 Hbx5.out.lt)
                            have kv := Blk.runItem5 Hbx6.out
                            obtain ⟨y0, y1, y2, y3, y4, y5, y6, y7, y8, y9, y10⟩ := item_cells Hbx6.out.cells
                            simp only [Nat.zero_add] at y1 y2 y3 y4 y5 y6 y7 y8 y9 y10
                            have HB6 := Lib.hid (HB5.out.trans (hB1.mono HB5.out.size))
                            clear hB1
                            go_wp2_with fail
                            refine Check_any dflt w6 hsd _ (fun w7 hB2 => ?_)
                            rw [hm]
                            clear y0 y1 y2 y3 y4 y5 y6 y7 y8 y9 y10 kv
                            have Hbx7 := Lib.hid (Hbx6.out.below hB2 Hbx6.out.lt)
                            have kv := Blk.runItem5 Hbx7.out
                            obtain ⟨y0, y1, y2, y3, y4, y5, y6, y7, y8, y9, y10⟩ := item_cells Hbx7.out.cells
                            simp only [Nat.zero_add] at y1 y2 y3 y4 y5 y6 y7 y8 y9 y10
                            have HB7 := Lib.hid (HB6.out.trans (hB2.mono HB6.out.size))
                            clear hB2
                            have hr := HR2.out w7 HB7.out
                            go_wp2_with fail
                            first | exact hr | exact fin hr rfl
                          · replace hm : mayB dflt = false := by simpa using hm
                            have e : itOne (⟨false, attr, back, limit, true, dflt, true, sub, rc⟩ : It) = false := by unfold itOne; simp only [Bool.false_eq_true, if_false]; rw [if_neg (by rw [← Hm.out]; exact h1)]; simp [hr0, hw, hl0, hl1, hr1, hr2, hm]
                            have HR2 : Hid (∀ w', Below w.heap.size w w' → R (.returned (.bool false)) w') := Lib.hid (fun w' h => by have := HR.out w' h; rwa [e] at this)
                            clear e
                            go_wp2_with fail
                            refine shWord_any attr wr _ (fun w5 hB0 => ?_)
                            clear y0 y1 y2 y3 y4 y5 y6 y7 y8 y9 y10 kv
                            have Hbx5 := Lib.hid (Hbx2.out.below hB0 Hbx2.out.lt)
                            have kv := Blk.runItem5 Hbx5.out
                            obtain ⟨y0, y1, y2, y3, y4, y5, y6, y7, y8, y9, y10⟩ := item_cells Hbx5.out.cells
                            simp only [Nat.zero_add] at y1 y2 y3 y4 y5 y6 y7 y8 y9 y10
                            have HB5 := Lib.hid (HB2.out.trans (hB0.mono HB2.out.size))
                            clear hB0
                            go_wp2_with fail
                            refine Check_any ⟨7, 0, attr⟩ w5 hsa _ (fun w6 hB1 => ?_)
                            rw [hw2]
                            clear y0 y1 y2 y3 y4 y5 y6 y7 y8 y9 y10 kv
                            have Hbx6 := Lib.hid (Hbx5.out.below hB1 Hbx5.out.lt)
                            have kv := Blk.runItem5 Hbx6.out
                            obtain ⟨y0, y1, y2, y3, y4, y5, y6, y7, y8, y9, y10⟩ := item_cells Hbx6.out.cells
                            simp only [Nat.zero_add] at y1 y2 y3 y4 y5 y6 y7 y8 y9 y10
                            have HB6 := Lib.hid (HB5.out.trans (hB1.mono HB5.out.size))
                            clear hB1
                            go_wp2_with fail
                            refine Check_any dflt w6 hsd _ (fun w7 hB2 => ?_)
                            rw [hm]
                            clear y0 y1 y2 y3 y4 y5 y6 y7 y8 y9 y10 kv
                            have Hbx7 := Lib.hid (Hbx6.out.below hB2 Hbx6.out.lt)
                            have kv := Blk.runItem5 Hbx7.out
                            obtain ⟨y0, y1, y2, y3, y4, y5, y6, y7, y8, y9, y10⟩ := item_cells Hbx7.out.cells
                            simp only [Nat.zero_add] at y1 y2 y3 y4 y5 y6 y7 y8 y9 y10
                            have HB7 := Lib.hid (HB6.out.trans (hB2.mono HB6.out.size))
                            clear hB2
                            have hr := HR2.out w7 HB7.out
                            go_wp2_with fail
                            first | exact hr | exact fin hr rfl
                        | false =>
                          by_cases hd : b = true
                          · have Hd2 : Hid (dflt = zeroV) := Lib.hid (by have hb := Hb.out; rw [hd] at hb; exact of_decide_eq_true hb.symm)
                            subst hd
                            have e : itOne (⟨false, attr, back, limit, false, dflt, true, sub, rc⟩ : It) = true := by unfold itOne; simp only [Bool.false_eq_true, if_false]; rw [if_neg (by rw [← Hm.out]; exact h1)]; simp [hr0, hw, hl0, hl1, hr1, hr2, Hd2.out]
                            have HR2 : Hid (∀ w', Below w.heap.size w w' → R (.returned (.bool true)) w') := Lib.hid (fun w' h => by have := HR.out w' h; rwa [e] at this)
                            clear e
                            go_wp2_with fail
                            refine shWord_any attr wr _ (fun w5 hB0 => ?_)
                            clear y0 y1 y2 y3 y4 y5 y6 y7 y8 y9 y10 kv
                            have Hbx5 := Lib.hid (Hbx2.out.below hB0 Hbx2.out.lt)
                            have kv := Blk.runItem5 Hbx5.out
                            obtain ⟨y0, y1, y2, y3, y4, y5, y6, y7, y8, y9, y10⟩ := item_cells Hbx5.out.cells
                            simp only [Nat.zero_add] at y1 y2 y3 y4 y5 y6 y7 y8 y9 y10
                            have HB5 := Lib.hid (HB2.out.trans (hB0.mono HB2.out.size))
                            clear hB0
                            go_wp2_with fail
                            refine Check_any ⟨7, 0, attr⟩ w5 hsa _ (fun w6 hB1 => ?_)
                            rw [hw2]
                            clear y0 y1 y2 y3 y4 y5 y6 y7 y8 y9 y10 kv
                            have Hbx6 := Lib.hid (Hbx5.out.below hB1 Hbx5.out.lt)
                            have kv := Blk.runItem5 Hbx6.out
                            obtain ⟨y0, y1, y2, y3, y4, y5, y6, y7, y8, y9, y10⟩ := item_cells Hbx6.out.cells
                            simp only [Nat.zero_add] at y1 y2 y3 y4 y5 y6 y7 y8 y9 y10
                            have HB6 := Lib.hid (HB5.out.trans (hB1.mono HB5.out.size))
                            clear hB1
                            have hr := HR2.out w6 HB6.out
                            go_wp2_with fail
                            first | exact hr | exact fin hr rfl
                          · have Hd2 : Hid (¬ dflt = zeroV) := Lib.hid (fun h => hd (by rw [Hb.out, decide_eq_true h]))
                            obtain rfl : b = false := by simpa using hd
                            have e : itOne (⟨false, attr, back, limit, false, dflt, true, sub, rc⟩ : It) = false := by unfold itOne; simp only [Bool.false_eq_true, if_false]; rw [if_neg (by rw [← Hm.out]; exact h1)]; simp [hr0, hw, hl0, hl1, hr1, hr2, Hd2.out]
                            have HR2 : Hid (∀ w', Below w.heap.size w w' → R (.returned (.bool false)) w') := Lib.hid (fun w' h => by have := HR.out w' h; rwa [e] at this)
                            clear e
                            go_wp2_with fail
                            refine shWord_any attr wr _ (fun w5 hB0 => ?_)
                            clear y0 y1 y2 y3 y4 y5 y6 y7 y8 y9 y10 kv
                            have Hbx5 := Lib.hid (Hbx2.out.below hB0 Hbx2.out.lt)
                            have kv := Blk.runItem5 Hbx5.out
                            obtain ⟨y0, y1, y2, y3, y4, y5, y6, y7, y8, y9, y10⟩ := item_cells Hbx5.out.cells
                            simp only [Nat.zero_add] at y1 y2 y3 y4 y5 y6 y7 y8 y9 y10
                            have HB5 := Lib.hid (HB2.out.trans (hB0.mono HB2.out.size))
                            clear hB0
                            go_wp2_with fail
                            refine Check_any ⟨7, 0, attr⟩ w5 hsa _ (fun w6 hB1 => ?_)
                            rw [hw2]
                            clear y0 y1 y2 y3 y4 y5 y6 y7 y8 y9 y10 kv
                            have Hbx6 := Lib.hid (Hbx5.out.below hB1 Hbx5.out.lt)
                            have kv := Blk.runItem5 Hbx6.out
                            obtain ⟨y0, y1, y2, y3, y4, y5, y6, y7, y8, y9, y10⟩ := item_cells Hbx6.out.cells
                            simp only [Nat.zero_add] at y1 y2 y3 y4 y5 y6 y7 y8 y9 y10
                            have HB6 := Lib.hid (HB5.out.trans (hB1.mono HB5.out.size))
                            clear hB1
                            have hr := HR2.out w6 HB6.out
                            go_wp2_with fail
                            first | exact hr | exact fin hr rfl
                      | false =>
                        by_cases hs0 : 0 < sub.length
                        · have hs0i : (0 : Int) < (sub.length : Int) := by omega
                          have e : itOne (⟨false, attr, back, limit, has, dflt, false, sub, rc⟩ : It) = false := by unfold itOne; simp only [Bool.false_eq_true, if_false]; rw [if_neg (by rw [← Hm.out]; exact h1)]; simp [hr0, hw, hl0, hl1, hr1, hr2, hs0]
                          have HR2 : Hid (∀ w', Below w.heap.size w w' → R (.returned (.bool false)) w') := Lib.hid (fun w' h => by have := HR.out w' h; rwa [e] at this)
                          clear e
                          go_wp2_with fail
                          refine shWord_any attr wr _ (fun w5 hB0 => ?_)
                          clear y0 y1 y2 y3 y4 y5 y6 y7 y8 y9 y10 kv
                          have Hbx5 := Lib.hid (Hbx2.out.below hB0 Hbx2.out.lt)
                          have kv := Blk.runItem5 Hbx5.out
                          obtain ⟨y0, y1, y2, y3, y4, y5, y6, y7, y8, y9, y10⟩ := item_cells Hbx5.out.cells
                          simp only [Nat.zero_add] at y1 y2 y3 y4 y5 y6 y7 y8 y9 y10
                          have HB5 := Lib.hid (HB2.out.trans (hB0.mono HB2.out.size))
                          clear hB0
                          go_wp2_with fail
                          refine Check_any ⟨7, 0, attr⟩ w5 hsa _ (fun w6 hB1 => ?_)
                          rw [hw2]
                          clear y0 y1 y2 y3 y4 y5 y6 y7 y8 y9 y10 kv
                          have Hbx6 := Lib.hid (Hbx5.out.below hB1 Hbx5.out.lt)
                          have kv := Blk.runItem5 Hbx6.out
                          obtain ⟨y0, y1, y2, y3, y4, y5, y6, y7, y8, y9, y10⟩ := item_cells Hbx6.out.cells
                          simp only [Nat.zero_add] at y1 y2 y3 y4 y5 y6 y7 y8 y9 y10
                          have HB6 := Lib.hid (HB5.out.trans (hB1.mono HB5.out.size))
                          clear hB1
                          have hr := HR2.out w6 HB6.out
                          go_wp2_with fail
                          first | exact hr | exact fin hr rfl
                        · have hs0i : ¬ (0 : Int) < (sub.length : Int) := by omega
                          cases has with
                          | true =>
                            by_cases hm : mayB dflt = true
                            · have e : itOne (⟨false, attr, back, limit, true, dflt, false, sub, rc⟩ : It) = true := by unfold itOne; simp only [Bool.false_eq_true, if_false]; rw [if_neg (by rw [← Hm.out]; exact h1)]; simp [hr0, hw, hl0, hl1, hr1, hr2, hs0, hm]
                              have HR2 : Hid (∀ w', Below w.heap.size w w' → R (.returned (.bool true)) w') := Lib.hid (fun w' h => by have := HR.out w' h; rwa [e] at this)
                              clear e
                              go_wp2_with fail
                              refine shWord_any attr wr _ (fun w5 hB0 => ?_)
                              clear y0 y1 y2 y3 y4 y5 y6 y7 y8 y9 y10 kv
                              have Hbx5 := Lib.hid (Hbx2.out.below hB0 Hbx2.out.lt)
                              have kv := Blk.runItem5 Hbx5.out
                              obtain ⟨y0, y1, y2, y3, y4, y5, y6, y7, y8, y9, y10⟩ := item_cells Hbx5.out.cells
                              simp only [Nat.zero_add] at y1 y2 y3 y4 y5 y6 y7 y8 y9 y10
                              have HB5 := Lib.hid (HB2.out.trans (hB0.mono HB2.out.size))
                              clear hB0
                              go_wp2_with fail
                              refine Check_any ⟨7, 0, attr⟩ w5 hsa _ (fun w6 hB1 => ?_)
                              rw [hw2]
                              clear y0 y1 y2 y3 y4 y5 y6 y7 y8 y9 y10 kv
                              have Hbx6 := Lib.hid (Hbx5.out.below hB1 Hbx5.out.lt)
                              have kv := Blk.runItem5 Hbx6.out
                              obtain ⟨y0, y1, y2, y3, y4, y5, y6, y7, y8, y9, y10⟩ := item_cells Hbx6.out.cells
                              simp only [Nat.zero_add] at y1 y2 y3 y4 y5 y6 y7 y8 y9 y10
                              have HB6 := Lib.hid (HB5.out.trans (hB1.mono HB5.out.size))
                              clear hB1
                              go_wp2_with fail
                              refine Check_any dflt w6 hsd _ (fun w7 hB2 => ?_)
                              rw [hm]
                              clear y0 y1 y2 y3 y4 y5 y6 y7 y8 y9 y10 kv
                              have Hbx7 := Lib.hid (Hbx6.out.below hB2 Hbx6.out.lt)
                              have kv := Blk.runItem5 Hbx7.out
                              obtain ⟨y0, y1, y2, y3, y4, y5, y6, y7, y8, y9, y10⟩ := item_cells Hbx7.out.cells
                              simp only [Nat.zero_add] at y1 y2 y3 y4 y5 y6 y7 y8 y9 y10
                              have HB7 := Lib.hid (HB6.out.trans (hB2.mono HB6.out.size))
                              clear hB2
                              have hr := HR2.out w7 HB7.out
                              go_wp2_with fail
                              first | exact hr | exact fin hr rfl
                            · replace hm : mayB dflt = false := by simpa using hm
                              have e : itOne (⟨false, attr, back, limit, true, dflt, false, sub, rc⟩ : It) = false := by unfold itOne; simp only [Bool.false_eq_true, if_false]; rw [if_neg (by rw [← Hm.out]; exact h1)]; simp [hr0, hw, hl0, hl1, hr1, hr2, hs0, hm]
                              have HR2 : Hid (∀ w', Below w.heap.size w w' → R (.returned (.bool false)) w') := Lib.hid (fun w' h => by have := HR.out w' h; rwa [e] at this)
                              clear e
                              go_wp2_with fail
                              refine shWord_any attr wr _ (fun w5 hB0 => ?_)
                              clear y0 y1 y2 y3 y4 y5 y6 y7 y8 y9 y10 kv
                              have Hbx5 := Lib.hid (Hbx2.out.below hB0 Hbx2.out.lt)
                              have kv := Blk.runItem5 Hbx5.out
                              obtain ⟨y0, y1, y2, y3, y4, y5, y6, y7, y8, y9, y10⟩ := item_cells Hbx5.out.cells
                              simp only [Nat.zero_add] at y1 y2 y3 y4 y5 y6 y7 y8 y9 y10
                              have HB5 := Lib.hid (HB2.out.trans (hB0.mono HB2.out.size))
                              clear hB0
                              go_wp2_with fail
                              refine Check_any ⟨7, 0, attr⟩ w5 hsa _ (fun w6 hB1 => ?_)
                              rw [hw2]
                              clear y0 y1 y2 y3 y4 y5 y6 y7 y8 y9 y10 kv
                              have Hbx6 := Lib.hid (Hbx5.out.below hB1 Hbx5.out.lt)
                              have kv := Blk.runItem5 Hbx6.out
                              obtain ⟨y0, y1, y2, y3, y4, y5, y6, y7, y8, y9, y10⟩ := item_cells Hbx6.out.cells
                              simp only [Nat.zero_add] at y1 y2 y3 y4 y5 y6 y7 y8 y9 y10
                              have HB6 := Lib.hid (HB5.out.trans (hB1.mono HB5.out.size))
                              clear hB1
                              go_wp2_with fail
                              refine Check_any dflt w6 hsd _ (fun w7 hB2 => ?_)
                              rw [hm]
                              clear y0 y1 y2 y3 y4 y5 y6 y7 y8 y9 y10 kv
                              have Hbx7 := Lib.hid (Hbx6.out.below hB2 Hbx6.out.lt)
                              have kv := Blk.runItem5 Hbx7.out
                              obtain ⟨y0, y1, y2, y3, y4, y5, y6, y7, y8, y9, y10⟩ := item_cells Hbx7.out.cells
                              simp only [Nat.zero_add] at y1 y2 y3 y4 y5 y6 y7 y8 y9 y10
                              have HB7 := Lib.hid (HB6.out.trans (hB2.mono HB6.out.size))
                              clear hB2
                              have hr := HR2.out w7 HB7.out
                              go_wp2_with fail
                              first | exact hr | exact fin hr rfl
                          | false =>
                            by_cases hd : b = true
                            · have Hd2 : Hid (dflt = zeroV) := Lib.hid (by have hb := Hb.out; rw [hd] at hb; exact of_decide_eq_true hb.symm)
                              subst hd
                              have e : itOne (⟨false, attr, back, limit, false, dflt, false, sub, rc⟩ : It) = true := by unfold itOne; simp only [Bool.false_eq_true, if_false]; rw [if_neg (by rw [← Hm.out]; exact h1)]; simp [hr0, hw, hl0, hl1, hr1, hr2, hs0, Hd2.out]
                              have HR2 : Hid (∀ w', Below w.heap.size w w' → R (.returned (.bool true)) w') := Lib.hid (fun w' h => by have := HR.out w' h; rwa [e] at this)
                              clear e
                              go_wp2_with fail
                              refine shWord_any attr wr _ (fun w5 hB0 => ?_)
                              clear y0 y1 y2 y3 y4 y5 y6 y7 y8 y9 y10 kv
                              have Hbx5 := Lib.hid (Hbx2.out.below hB0 Hbx2.out.lt)
                              have kv := Blk.runItem5 Hbx5.out
                              obtain ⟨y0, y1, y2, y3, y4, y5, y6, y7, y8, y9, y10⟩ := item_cells Hbx5.out.cells
                              simp only [Nat.zero_add] at y1 y2 y3 y4 y5 y6 y7 y8 y9 y10
                              have HB5 := Lib.hid (HB2.out.trans (hB0.mono HB2.out.size))
                              clear hB0
                              go_wp2_with fail
                              refine Check_any ⟨7, 0, attr⟩ w5 hsa _ (fun w6 hB1 => ?_)
                              rw [hw2]
                              clear y0 y1 y2 y3 y4 y5 y6 y7 y8 y9 y10 kv
                              have Hbx6 := Lib.hid (Hbx5.out.below hB1 Hbx5.out.lt)
                              have kv := Blk.runItem5 Hbx6.out
                              obtain ⟨y0, y1, y2, y3, y4, y5, y6, y7, y8, y9, y10⟩ := item_cells Hbx6.out.cells
                              simp only [Nat.zero_add] at y1 y2 y3 y4 y5 y6 y7 y8 y9 y10
                              have HB6 := Lib.hid (HB5.out.trans (hB1.mono HB5.out.size))
                              clear hB1
                              have hr := HR2.out w6 HB6.out
                              go_wp2_with fail
                              first | exact hr | exact fin hr rfl
                            · have Hd2 : Hid (¬ dflt = zeroV) := Lib.hid (fun h => hd (by rw [Hb.out, decide_eq_true h]))
                              obtain rfl : b = false := by simpa using hd
                              have e : itOne (⟨false, attr, back, limit, false, dflt, false, sub, rc⟩ : It) = false := by unfold itOne; simp only [Bool.false_eq_true, if_false]; rw [if_neg (by rw [← Hm.out]; exact h1)]; simp [hr0, hw, hl0, hl1, hr1, hr2, hs0, Hd2.out]
                              have HR2 : Hid (∀ w', Below w.heap.size w w' → R (.returned (.bool false)) w') := Lib.hid (fun w' h => by have := HR.out w' h; rwa [e] at this)
                              clear e
                              go_wp2_with fail
                              refine shWord_any attr wr _ (fun w5 hB0 => ?_)
                              clear y0 y1 y2 y3 y4 y5 y6 y7 y8 y9 y10 kv
                              have Hbx5 := Lib.hid (Hbx2.out.below hB0 Hbx2.out.lt)
                              have kv := Blk.runItem5 Hbx5.out
                              obtain ⟨y0, y1, y2, y3, y4, y5, y6, y7, y8, y9, y10⟩ := item_cells Hbx5.out.cells
                              simp only [Nat.zero_add] at y1 y2 y3 y4 y5 y6 y7 y8 y9 y10
                              have HB5 := Lib.hid (HB2.out.trans (hB0.mono HB2.out.size))
                              clear hB0
                              go_wp2_with fail
                              refine Check_any ⟨7, 0, attr⟩ w5 hsa _ (fun w6 hB1 => ?_)
                              rw [hw2]
                              clear y0 y1 y2 y3 y4 y5 y6 y7 y8 y9 y10 kv
                              have Hbx6 := Lib.hid (Hbx5.out.below hB1 Hbx5.out.lt)
                              have kv := Blk.runItem5 Hbx6.out
                              obtain ⟨y0, y1, y2, y3, y4, y5, y6, y7, y8, y9, y10⟩ := item_cells Hbx6.out.cells
                              simp only [Nat.zero_add] at y1 y2 y3 y4 y5 y6 y7 y8 y9 y10
                              have HB6 := Lib.hid (HB5.out.trans (hB1.mono HB5.out.size))
                              clear hB1
                              have hr := HR2.out w6 HB6.out
                              go_wp2_with fail
                              first | exact hr | exact fin hr rfl
            · replace hw : wordB attr = false := by simpa using hw
              have hw2 : mayB ⟨7, 0, attr⟩ = false := hw
              have e : itOne (⟨false, attr, back, limit, has, dflt, nested, sub, rc⟩ : It) = false := by unfold itOne; simp only [Bool.false_eq_true, if_false]; rw [if_neg (by rw [← Hm.out]; exact h1)]; simp [hr0, hw]
              have HR2 : Hid (∀ w', Below w.heap.size w w' → R (.returned (.bool false)) w') := Lib.hid (fun w' h => by have := HR.out w' h; rwa [e] at this)
              clear e
              go_wp2_with fail
              refine shWord_any attr wr _ (fun w5 hB0 => ?_)
              clear y0 y1 y2 y3 y4 y5 y6 y7 y8 y9 y10 kv
              have Hbx5 := Lib.hid (Hbx2.out.below hB0 Hbx2.out.lt)
              have kv := Blk.runItem5 Hbx5.out
              obtain ⟨y0, y1, y2, y3, y4, y5, y6, y7, y8, y9, y10⟩ := item_cells Hbx5.out.cells
              simp only [Nat.zero_add] at y1 y2 y3 y4 y5 y6 y7 y8 y9 y10
              have HB5 := Lib.hid (HB2.out.trans (hB0.mono HB2.out.size))
              clear hB0
              go_wp2_with fail
              refine Check_any ⟨7, 0, attr⟩ w5 hsa _ (fun w6 hB1 => ?_)
              rw [hw2]
              clear y0 y1 y2 y3 y4 y5 y6 y7 y8 y9 y10 kv
              have Hbx6 := Lib.hid (Hbx5.out.below hB1 Hbx5.out.lt)
              have kv := Blk.runItem5 Hbx6.out
              obtain ⟨y0, y1, y2, y3, y4, y5, y6, y7, y8, y9, y10⟩ := item_cells Hbx6.out.cells
              simp only [Nat.zero_add] at y1 y2 y3 y4 y5 y6 y7 y8 y9 y10
              have HB6 := Lib.hid (HB5.out.trans (hB1.mono HB5.out.size))
              clear hB1
              have hr := HR2.out w6 HB6.out
              go_wp2_with fail
              first | exact hr | exact fin hr rfl
end Go.Proofs.Yticbhfmpnmolcaa
end

/- May an item be, but for its list? The code's and the document's answers. (Printed by pulb.py.) -/
section
set_option linter.unusedVariables false
set_option linter.unusedSimpArgs false
namespace Go.Proofs.Yticbhfmpnmolcaa
open Go.RowKit
set_option linter.unusedVariables false
set_option linter.unusedSimpArgs false
set_option maxRecDepth 100000 in
set_option maxHeartbeats 8000000 in
theorem refOne_any (x : It) (p : Option Addr) (c : Nat) (w : World) (hl : x.lens) (R : Ending → World → Prop) (hR : ∀ w', Below w.heap.size w w' → R (.returned (.bool (itOne x))) w') :
    Calls Try.prog 55 #[.agg #[.bool x.wild, .string ⟨x.attr.toArray⟩, .bool x.back, .int .i64 x.limit, .bool x.has, .int .i64 x.dflt.kind, .int .i64 x.dflt.n, .string ⟨x.dflt.s.toArray⟩, .bool x.nested, .slice p x.sub.length c, .int .i64 x.rc]] w R := by
  obtain ⟨wild, attr, back, limit, has, dflt, nested, sub, rc⟩ := x
  have HR := Lib.hid hR
  obtain ⟨hl1, hl2⟩ := hl
  have hsa : attr.length ≤ 9223372036854775807 := Nat.le_trans hl1 (by decide)
  have hsd : dflt.s.length ≤ 9223372036854775807 := Nat.le_trans hl2 (by decide)
  obtain ⟨b, hb⟩ : ∃ b, b = decide (dflt = zeroV) := ⟨_, rfl⟩
  have hq : ∀ w, (binOp .eql 39 (.agg #[.int .i64 dflt.kind, .int .i64 dflt.n, .string ⟨dflt.s.toArray⟩]) (.agg #[.int .i64 0, .int .i64 0, .string ⟨#[]⟩])).run Try.prog w = .ok (.bool b) w := fun w => by
    by_cases h : dflt = zeroV
    · rw [hb, decide_eq_true h, h]; exact run_eql_same w
    · rw [hb, decide_eq_false h]; exact run_zero_not h w
  have hBx := alloc_below w (.cells #[.bool wild, .string ⟨attr.toArray⟩, .bool back, .int .i64 limit, .bool has, .int .i64 dflt.kind, .int .i64 dflt.n, .string ⟨dflt.s.toArray⟩, .bool nested, .slice p sub.length c, .int .i64 rc] 66)
  have hbx := Blk.new w [.bool wild, .string ⟨attr.toArray⟩, .bool back, .int .i64 limit, .bool has, .int .i64 dflt.kind, .int .i64 dflt.n, .string ⟨dflt.s.toArray⟩, .bool nested, .slice p sub.length c, .int .i64 rc] 66 rfl
  have HB := Lib.hid hBx
  clear hR hBx hl1 hl2
  go_enter Try.func55, Try.ntmps55
  go_upto_region 1 with fail
  generalize w.alloc (.cells #[.bool wild, .string ⟨attr.toArray⟩, .bool back, .int .i64 limit, .bool has, .int .i64 dflt.kind, .int .i64 dflt.n, .string ⟨dflt.s.toArray⟩, .bool nested, .slice p sub.length c, .int .i64 rc] 66) = w1 at *
  have hlt := hbx.lt
  have kv := Blk.runItem5 hbx
  obtain ⟨y0, y1, y2, y3, y4, y5, y6, y7, y8, y9, y10⟩ := item_cells hbx.cells
  simp only [Nat.zero_add] at y1 y2 y3 y4 y5 y6 y7 y8 y9 y10
  have Hbx := Lib.hid hbx
  have Hb := Lib.hid hb
  clear hbx hb
  cases wild with
  | true =>
    by_cases ha : attr = []
    · subst ha
      cases back with
      | true =>
        have e : itOne (⟨true, [], true, limit, has, dflt, nested, sub, rc⟩ : It) = false := by simp [itOne]
        have HR2 : Hid (∀ w', Below w.heap.size w w' → R (.returned (.bool false)) w') := Lib.hid (fun w' h => by have := HR.out w' h; rwa [e] at this)
        clear e
        have hr := HR2.out w1 HB.out
        go_wp2_with fail
        first | exact hr | exact fin hr rfl
      | false =>
        by_cases hl0 : limit = 0
        · cases has with
          | true =>
            have e : itOne (⟨true, [], false, limit, true, dflt, nested, sub, rc⟩ : It) = false := by simp [itOne, hl0]
            have HR2 : Hid (∀ w', Below w.heap.size w w' → R (.returned (.bool false)) w') := Lib.hid (fun w' h => by have := HR.out w' h; rwa [e] at this)
            clear e
            have hr := HR2.out w1 HB.out
            go_wp2_with fail
            first | exact hr | exact fin hr rfl
          | false =>
            by_cases hd : b = true
            · have Hd2 : Hid (dflt = zeroV) := Lib.hid (by have hb := Hb.out; rw [hd] at hb; exact of_decide_eq_true hb.symm)
              subst hd
              cases nested with
              | true =>
                have e : itOne (⟨true, [], false, limit, false, dflt, true, sub, rc⟩ : It) = false := by simp [itOne, hl0, Hd2.out]
                have HR2 : Hid (∀ w', Below w.heap.size w w' → R (.returned (.bool false)) w') := Lib.hid (fun w' h => by have := HR.out w' h; rwa [e] at this)
                clear e
                have hr := HR2.out w1 HB.out
                go_wp2_with fail
                first | exact hr | exact fin hr rfl
              | false =>
                by_cases hs0 : sub.length = 0
                · have hs0i : (sub.length : Int) = 0 := by omega
                  by_cases hr0 : rc = 0
                  · have e : itOne (⟨true, [], false, limit, false, dflt, false, sub, rc⟩ : It) = true := by simp [itOne, hl0, Hd2.out, hs0, hr0]
                    have HR2 : Hid (∀ w', Below w.heap.size w w' → R (.returned (.bool true)) w') := Lib.hid (fun w' h => by have := HR.out w' h; rwa [e] at this)
                    clear e
                    have hr := HR2.out w1 HB.out
                    go_wp2_with fail
                    first | exact hr | exact fin hr rfl
                  · have hr0e : (rc == 0) = false := by simpa using hr0
                    have e : itOne (⟨true, [], false, limit, false, dflt, false, sub, rc⟩ : It) = false := by simp [itOne, hl0, Hd2.out, hs0, hr0]
                    have HR2 : Hid (∀ w', Below w.heap.size w w' → R (.returned (.bool false)) w') := Lib.hid (fun w' h => by have := HR.out w' h; rwa [e] at this)
                    clear e
                    have hr := HR2.out w1 HB.out
                    go_wp2_with fail
                    first | exact hr | exact fin hr rfl
                · have hs0i : ¬ (sub.length : Int) = 0 := by omega
                  have e : itOne (⟨true, [], false, limit, false, dflt, false, sub, rc⟩ : It) = false := by simp [itOne, hl0, Hd2.out, hs0]
                  have HR2 : Hid (∀ w', Below w.heap.size w w' → R (.returned (.bool false)) w') := Lib.hid (fun w' h => by have := HR.out w' h; rwa [e] at this)
                  clear e
                  have hr := HR2.out w1 HB.out
                  go_wp2_with fail
                  first | exact hr | exact fin hr rfl
            · have Hd2 : Hid (¬ dflt = zeroV) := Lib.hid (fun h => hd (by rw [Hb.out, decide_eq_true h]))
              obtain rfl : b = false := by simpa using hd
              have e : itOne (⟨true, [], false, limit, false, dflt, nested, sub, rc⟩ : It) = false := by simp [itOne, hl0, Hd2.out]
              have HR2 : Hid (∀ w', Below w.heap.size w w' → R (.returned (.bool false)) w') := Lib.hid (fun w' h => by have := HR.out w' h; rwa [e] at this)
              clear e
              have hr := HR2.out w1 HB.out
              go_wp2_with fail
              first | exact hr | exact fin hr rfl
        · have e : itOne (⟨true, [], false, limit, has, dflt, nested, sub, rc⟩ : It) = false := by simp [itOne, hl0]
          have HR2 : Hid (∀ w', Below w.heap.size w w' → R (.returned (.bool false)) w') := Lib.hid (fun w' h => by have := HR.out w' h; rwa [e] at this)
          clear e
          have hr := HR2.out w1 HB.out
          go_wp2_with fail
          first | exact hr | exact fin hr rfl
    · have hae := run_empty_not ha
      have e : itOne (⟨true, attr, back, limit, has, dflt, nested, sub, rc⟩ : It) = false := by simp [itOne, ha]
      have HR2 : Hid (∀ w', Below w.heap.size w w' → R (.returned (.bool false)) w') := Lib.hid (fun w' h => by have := HR.out w' h; rwa [e] at this)
      clear e
      have hr := HR2.out w1 HB.out
      go_wp2_with fail
      first | exact hr | exact fin hr rfl
  | false =>
    cases has with
    | true =>
      cases nested with
      | true =>
        by_cases hr0 : rc = 0
        · have e : itOne (⟨false, attr, back, limit, true, dflt, true, sub, rc⟩ : It) = false := by simp [itOne, hr0]
          have HR2 : Hid (∀ w', Below w.heap.size w w' → R (.returned (.bool false)) w') := Lib.hid (fun w' h => by have := HR.out w' h; rwa [e] at this)
          clear e
          have hr := HR2.out w1 HB.out
          go_wp2_with fail
          first | exact hr | exact fin hr rfl
        · have e : itOne (⟨false, attr, back, limit, true, dflt, true, sub, rc⟩ : It) = false := by simp [itOne, hr0]
          have HR2 : Hid (∀ w', Below w.heap.size w w' → R (.returned (.bool false)) w') := Lib.hid (fun w' h => by have := HR.out w' h; rwa [e] at this)
          clear e
          have hr := HR2.out w1 HB.out
          go_wp2_with fail
          first | exact hr | exact fin hr rfl
      | false =>
        by_cases hr0 : rc = 0
        · by_cases hw : wordB attr = true
          · by_cases hl0 : limit < 0
            · have e : itOne (⟨false, attr, back, limit, true, dflt, false, sub, rc⟩ : It) = false := by simp [itOne, hr0, hw, hl0]
              have HR2 : Hid (∀ w', Below w.heap.size w w' → R (.returned (.bool false)) w') := Lib.hid (fun w' h => by have := HR.out w' h; rwa [e] at this)
              clear e
              go_wp2_with fail
              refine Word_any attr w1 hsa _ ?_
              rw [hw]
              have hr := HR2.out w1 HB.out
              go_wp2_with fail
              first | exact hr | exact fin hr rfl
            · by_cases hl1 : 1000 < limit
              · have e : itOne (⟨false, attr, back, limit, true, dflt, false, sub, rc⟩ : It) = false := by simp [itOne, hr0, hw, hl0, hl1]
                have HR2 : Hid (∀ w', Below w.heap.size w w' → R (.returned (.bool false)) w') := Lib.hid (fun w' h => by have := HR.out w' h; rwa [e] at this)
                clear e
                go_wp2_with fail
                refine Word_any attr w1 hsa _ ?_
                rw [hw]
                have hr := HR2.out w1 HB.out
                go_wp2_with fail
                first | exact hr | exact fin hr rfl
              · by_cases hs0 : 0 < sub.length
                · have hs0i : (0 : Int) < (sub.length : Int) := by omega
                  have e : itOne (⟨false, attr, back, limit, true, dflt, false, sub, rc⟩ : It) = false := by simp [itOne, hr0, hw, hl0, hl1, hs0]
                  have HR2 : Hid (∀ w', Below w.heap.size w w' → R (.returned (.bool false)) w') := Lib.hid (fun w' h => by have := HR.out w' h; rwa [e] at this)
                  clear e
                  go_wp2_with fail
                  refine Word_any attr w1 hsa _ ?_
                  rw [hw]
                  have hr := HR2.out w1 HB.out
                  go_wp2_with fail
                  first | exact hr | exact fin hr rfl
                · have hs0i : ¬ (0 : Int) < (sub.length : Int) := by omega
                  by_cases hm : mayB dflt = true
                  · have e : itOne (⟨false, attr, back, limit, true, dflt, false, sub, rc⟩ : It) = true := by simp [itOne, hr0, hw, hl0, hl1, hs0, hm]
                    have HR2 : Hid (∀ w', Below w.heap.size w w' → R (.returned (.bool true)) w') := Lib.hid (fun w' h => by have := HR.out w' h; rwa [e] at this)
                    clear e
                    go_wp2_with fail
                    refine Word_any attr w1 hsa _ ?_
                    rw [hw]
                    go_wp2_with fail
                    refine May_any dflt w1 hsd _ (fun w6 hB1 => ?_)
                    rw [hm]
                    clear y0 y1 y2 y3 y4 y5 y6 y7 y8 y9 y10 kv
                    have Hbx6 := Lib.hid (Hbx.out.below hB1 Hbx.out.lt)
                    have kv := Blk.runItem5 Hbx6.out
                    obtain ⟨y0, y1, y2, y3, y4, y5, y6, y7, y8, y9, y10⟩ := item_cells Hbx6.out.cells
                    simp only [Nat.zero_add] at y1 y2 y3 y4 y5 y6 y7 y8 y9 y10
                    have HB6 := Lib.hid (HB.out.trans (hB1.mono HB.out.size))
                    clear hB1
                    have hr := HR2.out w6 HB6.out
                    go_wp2_with fail
                    first | exact hr | exact fin hr rfl
                  · replace hm : mayB dflt = false := by simpa using hm
                    have e : itOne (⟨false, attr, back, limit, true, dflt, false, sub, rc⟩ : It) = false := by simp [itOne, hr0, hw, hl0, hl1, hs0, hm]
                    have HR2 : Hid (∀ w', Below w.heap.size w w' → R (.returned (.bool false)) w') := Lib.hid (fun w' h => by have := HR.out w' h; rwa [e] at this)
                    clear e
                    go_wp2_with fail
                    refine Word_any attr w1 hsa _ ?_
                    rw [hw]
                    go_wp2_with fail
                    refine May_any dflt w1 hsd _ (fun w6 hB1 => ?_)
                    rw [hm]
                    clear y0 y1 y2 y3 y4 y5 y6 y7 y8 y9 y10 kv
                    have Hbx6 := Lib.hid (Hbx.out.below hB1 Hbx.out.lt)
                    have kv := Blk.runItem5 Hbx6.out
                    obtain ⟨y0, y1, y2, y3, y4, y5, y6, y7, y8, y9, y10⟩ := item_cells Hbx6.out.cells
                    simp only [Nat.zero_add] at y1 y2 y3 y4 y5 y6 y7 y8 y9 y10
                    have HB6 := Lib.hid (HB.out.trans (hB1.mono HB.out.size))
                    clear hB1
                    have hr := HR2.out w6 HB6.out
                    go_wp2_with fail
                    first | exact hr | exact fin hr rfl
          · replace hw : wordB attr = false := by simpa using hw
            have e : itOne (⟨false, attr, back, limit, true, dflt, false, sub, rc⟩ : It) = false := by simp [itOne, hr0, hw]
            have HR2 : Hid (∀ w', Below w.heap.size w w' → R (.returned (.bool false)) w') := Lib.hid (fun w' h => by have := HR.out w' h; rwa [e] at this)
            clear e
            go_wp2_with fail
            refine Word_any attr w1 hsa _ ?_
            rw [hw]
            have hr := HR2.out w1 HB.out
            go_wp2_with fail
            first | exact hr | exact fin hr rfl
        · have e : itOne (⟨false, attr, back, limit, true, dflt, false, sub, rc⟩ : It) = false := by simp [itOne, hr0]
          have HR2 : Hid (∀ w', Below w.heap.size w w' → R (.returned (.bool false)) w') := Lib.hid (fun w' h => by have := HR.out w' h; rwa [e] at this)
          clear e
          have hr := HR2.out w1 HB.out
          go_wp2_with fail
          first | exact hr | exact fin hr rfl
    | false =>
      cases nested with
      | true =>
        by_cases hr0 : rc = 0
        · by_cases hw : wordB attr = true
          · by_cases hl0 : limit < 0
            · have e : itOne (⟨false, attr, back, limit, false, dflt, true, sub, rc⟩ : It) = false := by simp [itOne, hr0, hw, hl0]
              have HR2 : Hid (∀ w', Below w.heap.size w w' → R (.returned (.bool false)) w') := Lib.hid (fun w' h => by have := HR.out w' h; rwa [e] at this)
              clear e
              go_wp2_with fail
              refine Word_any attr w1 hsa _ ?_
              rw [hw]
              have hr := HR2.out w1 HB.out
              go_wp2_with fail
              first | exact hr | exact fin hr rfl
            · by_cases hl1 : 1000 < limit
              · have e : itOne (⟨false, attr, back, limit, false, dflt, true, sub, rc⟩ : It) = false := by simp [itOne, hr0, hw, hl0, hl1]
                have HR2 : Hid (∀ w', Below w.heap.size w w' → R (.returned (.bool false)) w') := Lib.hid (fun w' h => by have := HR.out w' h; rwa [e] at this)
                clear e
                go_wp2_with fail
                refine Word_any attr w1 hsa _ ?_
                rw [hw]
                have hr := HR2.out w1 HB.out
                go_wp2_with fail
                first | exact hr | exact fin hr rfl
              · by_cases hd : b = true
                · have Hd2 : Hid (dflt = zeroV) := Lib.hid (by have hb := Hb.out; rw [hd] at hb; exact of_decide_eq_true hb.symm)
                  subst hd
                  have e : itOne (⟨false, attr, back, limit, false, dflt, true, sub, rc⟩ : It) = true := by simp [itOne, hr0, hw, hl0, hl1, Hd2.out]
                  have HR2 : Hid (∀ w', Below w.heap.size w w' → R (.returned (.bool true)) w') := Lib.hid (fun w' h => by have := HR.out w' h; rwa [e] at this)
                  clear e
                  go_wp2_with fail
                  refine Word_any attr w1 hsa _ ?_
                  rw [hw]
                  have hr := HR2.out w1 HB.out
                  go_wp2_with fail
                  first | exact hr | exact fin hr rfl
                · have Hd2 : Hid (¬ dflt = zeroV) := Lib.hid (fun h => hd (by rw [Hb.out, decide_eq_true h]))
                  obtain rfl : b = false := by simpa using hd
                  have e : itOne (⟨false, attr, back, limit, false, dflt, true, sub, rc⟩ : It) = false := by simp [itOne, hr0, hw, hl0, hl1, Hd2.out]
                  have HR2 : Hid (∀ w', Below w.heap.size w w' → R (.returned (.bool false)) w') := Lib.hid (fun w' h => by have := HR.out w' h; rwa [e] at this)
                  clear e
                  go_wp2_with fail
                  refine Word_any attr w1 hsa _ ?_
                  rw [hw]
                  have hr := HR2.out w1 HB.out
                  go_wp2_with fail
                  first | exact hr | exact fin hr rfl
          · replace hw : wordB attr = false := by simpa using hw
            have e : itOne (⟨false, attr, back, limit, false, dflt, true, sub, rc⟩ : It) = false := by simp [itOne, hr0, hw]
            have HR2 : Hid (∀ w', Below w.heap.size w w' → R (.returned (.bool false)) w') := Lib.hid (fun w' h => by have := HR.out w' h; rwa [e] at this)
            clear e
            go_wp2_with fail
            refine Word_any attr w1 hsa _ ?_
            rw [hw]
            have hr := HR2.out w1 HB.out
            go_wp2_with fail
            first | exact hr | exact fin hr rfl
        · have e : itOne (⟨false, attr, back, limit, false, dflt, true, sub, rc⟩ : It) = false := by simp [itOne, hr0]
          have HR2 : Hid (∀ w', Below w.heap.size w w' → R (.returned (.bool false)) w') := Lib.hid (fun w' h => by have := HR.out w' h; rwa [e] at this)
          clear e
          have hr := HR2.out w1 HB.out
          go_wp2_with fail
          first | exact hr | exact fin hr rfl
      | false =>
        by_cases hr0 : rc = 0
        · by_cases hw : wordB attr = true
          · by_cases hl0 : limit < 0
            · have e : itOne (⟨false, attr, back, limit, false, dflt, false, sub, rc⟩ : It) = false := by simp [itOne, hr0, hw, hl0]
              have HR2 : Hid (∀ w', Below w.heap.size w w' → R (.returned (.bool false)) w') := Lib.hid (fun w' h => by have := HR.out w' h; rwa [e] at this)
              clear e
              go_wp2_with fail
              refine Word_any attr w1 hsa _ ?_
              rw [hw]
              have hr := HR2.out w1 HB.out
              go_wp2_with fail
              first | exact hr | exact fin hr rfl
            · by_cases hl1 : 1000 < limit
              · have e : itOne (⟨false, attr, back, limit, false, dflt, false, sub, rc⟩ : It) = false := by simp [itOne, hr0, hw, hl0, hl1]
                have HR2 : Hid (∀ w', Below w.heap.size w w' → R (.returned (.bool false)) w') := Lib.hid (fun w' h => by have := HR.out w' h; rwa [e] at this)
                clear e
                go_wp2_with fail
                refine Word_any attr w1 hsa _ ?_
                rw [hw]
                have hr := HR2.out w1 HB.out
                go_wp2_with fail
                first | exact hr | exact fin hr rfl
              · by_cases hs0 : 0 < sub.length
                · have hs0i : (0 : Int) < (sub.length : Int) := by omega
                  have e : itOne (⟨false, attr, back, limit, false, dflt, false, sub, rc⟩ : It) = false := by simp [itOne, hr0, hw, hl0, hl1, hs0]
                  have HR2 : Hid (∀ w', Below w.heap.size w w' → R (.returned (.bool false)) w') := Lib.hid (fun w' h => by have := HR.out w' h; rwa [e] at this)
                  clear e
                  go_wp2_with fail
                  refine Word_any attr w1 hsa _ ?_
                  rw [hw]
                  have hr := HR2.out w1 HB.out
                  go_wp2_with fail
                  first | exact hr | exact fin hr rfl
                · have hs0i : ¬ (0 : Int) < (sub.length : Int) := by omega
                  by_cases hd : b = true
                  · have Hd2 : Hid (dflt = zeroV) := Lib.hid (by have hb := Hb.out; rw [hd] at hb; exact of_decide_eq_true hb.symm)
                    subst hd
                    have e : itOne (⟨false, attr, back, limit, false, dflt, false, sub, rc⟩ : It) = true := by simp [itOne, hr0, hw, hl0, hl1, hs0, Hd2.out]
                    have HR2 : Hid (∀ w', Below w.heap.size w w' → R (.returned (.bool true)) w') := Lib.hid (fun w' h => by have := HR.out w' h; rwa [e] at this)
                    clear e
                    go_wp2_with fail
                    refine Word_any attr w1 hsa _ ?_
                    rw [hw]
                    have hr := HR2.out w1 HB.out
                    go_wp2_with fail
                    first | exact hr | exact fin hr rfl
                  · have Hd2 : Hid (¬ dflt = zeroV) := Lib.hid (fun h => hd (by rw [Hb.out, decide_eq_true h]))
                    obtain rfl : b = false := by simpa using hd
                    have e : itOne (⟨false, attr, back, limit, false, dflt, false, sub, rc⟩ : It) = false := by simp [itOne, hr0, hw, hl0, hl1, hs0, Hd2.out]
                    have HR2 : Hid (∀ w', Below w.heap.size w w' → R (.returned (.bool false)) w') := Lib.hid (fun w' h => by have := HR.out w' h; rwa [e] at this)
                    clear e
                    go_wp2_with fail
                    refine Word_any attr w1 hsa _ ?_
                    rw [hw]
                    have hr := HR2.out w1 HB.out
                    go_wp2_with fail
                    first | exact hr | exact fin hr rfl
          · replace hw : wordB attr = false := by simpa using hw
            have e : itOne (⟨false, attr, back, limit, false, dflt, false, sub, rc⟩ : It) = false := by simp [itOne, hr0, hw]
            have HR2 : Hid (∀ w', Below w.heap.size w w' → R (.returned (.bool false)) w') := Lib.hid (fun w' h => by have := HR.out w' h; rwa [e] at this)
            clear e
            go_wp2_with fail
            refine Word_any attr w1 hsa _ ?_
            rw [hw]
            have hr := HR2.out w1 HB.out
            go_wp2_with fail
            first | exact hr | exact fin hr rfl
        · by_cases hw : wordB attr = true
          · by_cases hl0 : limit < 0
            · have e : itOne (⟨false, attr, back, limit, false, dflt, false, sub, rc⟩ : It) = false := by simp [itOne, hr0, hw, hl0]
              have HR2 : Hid (∀ w', Below w.heap.size w w' → R (.returned (.bool false)) w') := Lib.hid (fun w' h => by have := HR.out w' h; rwa [e] at this)
              clear e
              go_wp2_with fail
              refine Word_any attr w1 hsa _ ?_
              rw [hw]
              have hr := HR2.out w1 HB.out
              go_wp2_with fail
              first | exact hr | exact fin hr rfl
            · by_cases hl1 : 1000 < limit
              · have e : itOne (⟨false, attr, back, limit, false, dflt, false, sub, rc⟩ : It) = false := by simp [itOne, hr0, hw, hl0, hl1]
                have HR2 : Hid (∀ w', Below w.heap.size w w' → R (.returned (.bool false)) w') := Lib.hid (fun w' h => by have := HR.out w' h; rwa [e] at this)
                clear e
                go_wp2_with fail
                refine Word_any attr w1 hsa _ ?_
                rw [hw]
                have hr := HR2.out w1 HB.out
                go_wp2_with fail
                first | exact hr | exact fin hr rfl
              · by_cases hr1 : rc < -1
                · have e : itOne (⟨false, attr, back, limit, false, dflt, false, sub, rc⟩ : It) = false := by simp [itOne, hr0, hw, hl0, hl1, hr1]
                  have HR2 : Hid (∀ w', Below w.heap.size w w' → R (.returned (.bool false)) w') := Lib.hid (fun w' h => by have := HR.out w' h; rwa [e] at this)
                  clear e
                  go_wp2_with fail
                  refine Word_any attr w1 hsa _ ?_
                  rw [hw]
                  have hr := HR2.out w1 HB.out
                  go_wp2_with fail
                  first | exact hr | exact fin hr rfl
                · by_cases hr2 : 100 < rc
                  · have e : itOne (⟨false, attr, back, limit, false, dflt, false, sub, rc⟩ : It) = false := by simp [itOne, hr0, hw, hl0, hl1, hr1, hr2]
                    have HR2 : Hid (∀ w', Below w.heap.size w w' → R (.returned (.bool false)) w') := Lib.hid (fun w' h => by have := HR.out w' h; rwa [e] at this)
                    clear e
                    go_wp2_with fail
                    refine Word_any attr w1 hsa _ ?_
                    rw [hw]
                    have hr := HR2.out w1 HB.out
                    go_wp2_with fail
                    first | exact hr | exact fin hr rfl
                  · by_cases hs0 : 0 < sub.length
                    · have hs0i : (0 : Int) < (sub.length : Int) := by omega
                      have e : itOne (⟨false, attr, back, limit, false, dflt, false, sub, rc⟩ : It) = false := by simp [itOne, hr0, hw, hl0, hl1, hr1, hr2, hs0]
                      have HR2 : Hid (∀ w', Below w.heap.size w w' → R (.returned (.bool false)) w') := Lib.hid (fun w' h => by have := HR.out w' h; rwa [e] at this)
                      clear e
                      go_wp2_with fail
                      refine Word_any attr w1 hsa _ ?_
                      rw [hw]
                      have hr := HR2.out w1 HB.out
                      go_wp2_with fail
                      first | exact hr | exact fin hr rfl
                    · have hs0i : ¬ (0 : Int) < (sub.length : Int) := by omega
                      by_cases hd : b = true
                      · have Hd2 : Hid (dflt = zeroV) := Lib.hid (by have hb := Hb.out; rw [hd] at hb; exact of_decide_eq_true hb.symm)
                        subst hd
                        have e : itOne (⟨false, attr, back, limit, false, dflt, false, sub, rc⟩ : It) = true := by simp [itOne, hr0, hw, hl0, hl1, hr1, hr2, hs0, Hd2.out]
                        have HR2 : Hid (∀ w', Below w.heap.size w w' → R (.returned (.bool true)) w') := Lib.hid (fun w' h => by have := HR.out w' h; rwa [e] at this)
                        clear e
                        go_wp2_with fail
                        refine Word_any attr w1 hsa _ ?_
                        rw [hw]
                        have hr := HR2.out w1 HB.out
                        go_wp2_with fail
                        first | exact hr | exact fin hr rfl
                      · have Hd2 : Hid (¬ dflt = zeroV) := Lib.hid (fun h => hd (by rw [Hb.out, decide_eq_true h]))
                        obtain rfl : b = false := by simpa using hd
                        have e : itOne (⟨false, attr, back, limit, false, dflt, false, sub, rc⟩ : It) = false := by simp [itOne, hr0, hw, hl0, hl1, hr1, hr2, hs0, Hd2.out]
                        have HR2 : Hid (∀ w', Below w.heap.size w w' → R (.returned (.bool false)) w') := Lib.hid (fun w' h => by have := HR.out w' h; rwa [e] at this)
                        clear e
                        go_wp2_with fail
                        refine Word_any attr w1 hsa _ ?_
                        rw [hw]
                        have hr := HR2.out w1 HB.out
                        go_wp2_with fail
                        first | exact hr | exact fin hr rfl
          · replace hw : wordB attr = false := by simpa using hw
            have e : itOne (⟨false, attr, back, limit, false, dflt, false, sub, rc⟩ : It) = false := by simp [itOne, hr0, hw]
            have HR2 : Hid (∀ w', Below w.heap.size w w' → R (.returned (.bool false)) w') := Lib.hid (fun w' h => by have := HR.out w' h; rwa [e] at this)
            clear e
            go_wp2_with fail
            refine Word_any attr w1 hsa _ ?_
            rw [hw]
            have hr := HR2.out w1 HB.out
            go_wp2_with fail
            first | exact hr | exact fin hr rfl
end Go.Proofs.Yticbhfmpnmolcaa
end

/- May a pattern be? The document's count, fine and May. (Printed by pulc.py.) -/
section
set_option linter.unusedVariables false
set_option linter.unusedSimpArgs false
namespace Go.Proofs.Yticbhfmpnmolcaa
open Go.RowKit
set_option linter.unusedVariables false
set_option linter.unusedSimpArgs false
mutual
/-- Items of the lists within, where these are taken; how deep they stand. -/
def It.cnt : It → Nat
  | ⟨_, _, _, _, _, _, nested, sub, _⟩ => if nested then sub.length + cntL sub else 0
def cntL : List It → Nat
  | [] => 0
  | x :: r => x.cnt + cntL r
end
mutual
def It.dpt : It → Nat
  | ⟨_, _, _, _, _, _, nested, sub, _⟩ => if nested then 1 + dptL sub else 0
def dptL : List It → Nat
  | [] => 0
  | x :: r => max x.dpt (dptL r)
end
theorem It.cnt_eq (x : It) : x.cnt = if x.nested then x.sub.length + cntL x.sub else 0 := by cases x; rw [It.cnt]
theorem It.dpt_eq (x : It) : x.dpt = if x.nested then 1 + dptL x.sub else 0 := by cases x; rw [It.dpt]
def alikeB (x y : It) : Bool := x.wild == y.wild && x.attr == y.attr && x.back == y.back
def itemOk (l : List It) (i : Nat) : Bool := itOne (l.getD i default) && (List.range i).all fun k => !alikeB (l.getD i default) (l.getD k default)
def listOk (l : List It) : Bool := (List.range l.length).all (itemOk l)
mutual
def It.fineI : It → Bool
  | ⟨_, _, _, _, _, _, nested, sub, _⟩ => !nested || (listOk sub && fineA sub)
def fineA : List It → Bool
  | [] => true
  | x :: r => x.fineI && fineA r
end
theorem It.fineI_eq (x : It) : x.fineI = (!x.nested || (listOk x.sub && fineA x.sub)) := by cases x; rw [It.fineI]
def finePat (l : List It) : Bool := listOk l && fineA l
def mayPat (l : List It) : Bool := decide (l.length + cntL l ≤ 1000) && decide (1 + dptL l ≤ 20) && finePat l
theorem fineA_all : ∀ (l : List It), fineA l = l.all It.fineI
  | [] => by rw [fineA]; rfl
  | x :: r => by rw [fineA, List.all_cons, fineA_all r]
theorem cntL_append : ∀ (l m : List It), cntL (l ++ m) = cntL l + cntL m
  | [], m => by rw [List.nil_append, cntL]; omega
  | x :: r, m => by rw [List.cons_append, cntL, cntL, cntL_append r m]; omega
theorem dptL_append : ∀ (l m : List It), dptL (l ++ m) = max (dptL l) (dptL m)
  | [], m => by rw [List.nil_append, dptL]; omega
  | x :: r, m => by rw [List.cons_append, dptL, dptL, dptL_append r m]; omega
theorem cntL_take {l : List It} {k : Nat} (hk : k < l.length) : cntL (l.take (k + 1)) = cntL (l.take k) + l[k].cnt := by
  rw [List.take_succ_eq_append_getElem hk, cntL_append, cntL, cntL]; omega
theorem dptL_take {l : List It} {k : Nat} (hk : k < l.length) : dptL (l.take (k + 1)) = max (dptL (l.take k)) l[k].dpt := by
  rw [List.take_succ_eq_append_getElem hk, dptL_append, dptL, dptL]; omega
mutual
theorem cnt_le : ∀ (x : It), 1 + x.cnt ≤ x.all
  | ⟨_, _, _, _, _, _, nested, sub, _⟩ => by
    rw [It.cnt, It.all]
    have := cntL_le sub
    split <;> omega
theorem cntL_le : ∀ (l : List It), l.length + cntL l ≤ allL l
  | [] => by rw [cntL, allL]; simp
  | x :: r => by
    rw [cntL, allL, List.length_cons]
    have := cnt_le x
    have := cntL_le r
    omega
end
mutual
theorem dpt_le : ∀ (x : It), x.dpt + 1 ≤ 1 + x.deep
  | ⟨_, _, _, _, _, _, nested, sub, _⟩ => by
    rw [It.dpt, It.deep]
    have := dptL_le sub
    split <;> omega
theorem dptL_le : ∀ (l : List It), dptL l ≤ deepL l
  | [] => by rw [dptL]; omega
  | x :: r => by
    rw [dptL, deepL]
    have := dpt_le x
    have := dptL_le r
    omega
end
theorem cntL_take_le (l : List It) (k : Nat) : cntL (l.take k) ≤ cntL l := by
  conv => rhs; rw [← List.take_append_drop k l, cntL_append]
  omega
theorem cnt_max (l : List It) (k : Nat) : l.length + cntL (l.take k) ≤ allL l := by
  have := cntL_le l
  have := cntL_take_le l k
  omega
set_option maxRecDepth 100000 in
set_option maxHeartbeats 8000000 in
theorem count_any : ∀ (d lo hi : Nat) (l : List It) (v : Value) (w : World) (dp : Int) (hdp : 0 ≤ dp) (hv : Its d lo hi w v l) (hhi : hi ≤ w.heap.size) (ha : allL l ≤ 1000) (hd : dp + deepL l ≤ 100) (R : Ending → World → Prop)
    (hR : ∀ w', Below w.heap.size w w' → R (.returned (.tuple #[.int .i64 ((l.length + cntL l : Nat) : Int), .int .i64 (dp + (dptL l : Nat))])) w'), Calls Try.prog 27 #[v, .int .i64 dp] w R := by
  intro d
  induction d with
  | zero =>
    intro lo hi l v w dp hdp hv hhi ha hd R hR
    have hl : l = [] := by
      obtain ⟨_, _, _, _, _, _, h5⟩ := hv
      refine Classical.byContradiction fun hn => ?_
      obtain ⟨b, off, _, _, _, k3⟩ := h5 hn
      obtain ⟨cs, _, _, c3⟩ := k3 0 (List.length_pos_iff.2 hn)
      exact c3
    subst hl
    have hr := hR w (Below.refl _ _)
    obtain ⟨ao, cv, rfl, -, -, -, -⟩ := hv.form
    simp only [List.length_nil, cntL, dptL] at hr
    have e1 : dp + ((0 : Nat) : Int) = dp := by omega
    rw [e1] at hr
    clear hR hv e1 ha hd
    simp only [List.length_nil]
    go_enter Try.func27, Try.ntmps27
    go_wp2_with fail
    go_loopw [6, 7, 8] (fun t6 t7 t8 wr => t6 = .int .i64 0 ∧ t7 = .int .i64 dp ∧ t8 = .int .i64 0 ∧ wr = w) (fun _ _ _ _ => 0)
    case atStart => exact ⟨rfl, rfl, rfl, rfl⟩
    case round =>
      obtain ⟨rfl, rfl, rfl, rfl⟩ := hrel
      have l00 : ¬ (0 : Int) < 0 := by decide
      go_wp2_with fail
      first | exact hr | exact fin hr rfl
  | succ d ih =>
    intro lo hi l v w dp hdp hv hhi ha hd R hR
    have HR := Lib.hid hR
    have hl63 := hv.len
    have Hv := Lib.hid hv
    have hll : l.length ≤ 1000 := Nat.le_trans (allL_len l) ha
    have hdl : dptL l ≤ 100 := by have := dptL_le l; omega
    obtain ⟨ao, cv, rfl, -, -, -, -⟩ := hv.form
    clear hR hv
    go_enter Try.func27, Try.ntmps27
    go_wp2_with fail
    go_loopw [6, 7, 8] (fun t6 t7 t8 wr => ∃ (k n m : Nat), k ≤ l.length ∧ Hid (n = l.length + cntL (l.take k)) ∧ Hid (m = dptL (l.take k)) ∧ t8 = .int .i64 k ∧ t6 = .int .i64 n ∧ t7 = .int .i64 (dp + (m : Int)) ∧ Below w.heap.size w wr) (fun _ _ t8 _ => l.length - (intOf t8).toNat)
    case atStart => exact ⟨0, l.length, 0, Nat.zero_le _, Lib.hid (by simp [cntL]), Lib.hid (by simp [dptL]), rfl, rfl, by simp, Below.refl _ _⟩
    case round =>
      obtain ⟨k, n, m, hk, Hn, Hm, rfl, rfl, rfl, hB⟩ := hrel
      obtain ⟨wo, ewo⟩ : ∃ x, x = wr := ⟨_, rfl⟩
      subst ewo
      have HB := Lib.hid hB
      have hz := hB.size
      have hn1 : n ≤ 1000 := by rw [Hn.out]; have := cnt_max l k; omega
      have kk0 : (0 : Int) ≤ (k : Int) := by omega
      have hm1 : m ≤ 100 := by
        have h1 := Hm.out
        have h2 : dptL (l.take k) ≤ dptL l := by
          conv => rhs; rw [← List.take_append_drop k l, dptL_append]
          omega
        omega
      clear hB
      by_cases hlt : k < l.length
      · have kkl : (k : Int) < (l.length : Int) := by omega
        have Hx := Lib.hid (Sl.below Hv.out (itE_loc (d + 1)) HB.out hhi)
        obtain ⟨ao', cap', e', -, -, -, hc⟩ := Hx.out.form
        injection e' with e1 e2 e3
        subst e1 e3
        obtain ⟨b, off, rfl, hb1, hb2, hcc⟩ := hc k hlt
        obtain ⟨cs, -, hcs, hel⟩ := hcc k hlt
        have hmemd := deepL_mem (List.getElem_mem hlt)
        have hmema := allL_mem (List.getElem_mem hlt)
        have hstepc := cntL_take hlt
        have hstepd := dptL_take hlt
        have hnmax := cnt_max l (k + 1)
        have hdmax : dptL (l.take (k + 1)) ≤ dptL l := by
          conv => rhs; rw [← List.take_append_drop (k + 1) l, dptL_append]
          omega
        generalize l[k] = x at *
        rw [It.deep_eq] at hmemd
        rw [It.all_eq] at hmema
        rw [It.cnt_eq, ← Hm.out] at *
        rw [It.dpt_eq] at hstepd
        obtain ⟨hlens, sv, rfl, hsub⟩ := hel
        have Hsub := Lib.hid hsub
        obtain ⟨asv, csv, rfl, -, -, -, -⟩ := hsub.form
        obtain ⟨y0, y1, y2, y3, y4, y5, y6, y7, y8, y9, y10⟩ := item_cells hcs
        have hd1 : dp < 100 := by omega
        clear hc hcc hcs hsub e2 hb1 hb2 Hx y0 y1 y2 y3 y4 y5 y6 y7 y10
        obtain ⟨q1, hq1⟩ : ∃ q, q = cntL (l.take (k + 1)) := ⟨_, rfl⟩
        obtain ⟨q2, hq2⟩ : ∃ q, q = dptL (l.take (k + 1)) := ⟨_, rfl⟩
        rw [← hq1] at hstepc hnmax
        rw [← hq2] at hstepd hdmax
        have Hq1 := Lib.hid hq1
        have Hq2 := Lib.hid hq2
        clear hq1 hq2
        cases hnst : x.nested with
        | false =>
          rw [hnst] at hstepc hstepd y8
          simp only [Bool.false_eq_true, if_false] at hstepc hstepd
          have Hstepc := Lib.hid hstepc
          have Hstepd := Lib.hid hstepd
          have Hn2 : Hid (n = l.length + q1) := Lib.hid (by rw [Hn.out, Hstepc.out]; rfl)
          have Hm2 : Hid (m = q2) := Lib.hid (by rw [Hstepd.out]; simp)
          clear hnst hstepc hstepd
          go_wp2_with fail
          go_roundw
          case rel => exact ⟨k + 1, n, m, by omega, Lib.hid (by rw [← Hq1.out]; exact Hn2.out), Lib.hid (by rw [← Hq2.out]; exact Hm2.out), by go_num, rfl, rfl, HB.out⟩
          case measure => simp [intOf]; omega
        | true =>
          rw [hnst] at hstepc hstepd y8
          simp only [if_true] at hstepc hstepd
          have Hn2 : Hid (n + (x.sub.length + cntL x.sub) = l.length + q1) := Lib.hid (by rw [Hn.out, hstepc]; omega)
          have Hm2 : Hid (q2 = max m (1 + dptL x.sub)) := Lib.hid hstepd
          have hnb : n + (x.sub.length + cntL x.sub) ≤ 1000 := by rw [Hn2.out]; omega
          have hmb : 1 + dptL x.sub ≤ 100 := by omega
          clear hnst hstepc hstepd
          go_wp2_with fail
          refine ih lo hi x.sub _ wo (dp + 1) (by omega) Hsub.out (by omega) (by omega) (by omega) _ (fun w2 hB2 => ?_)
          obtain ⟨c1, hc1⟩ : ∃ c, c = x.sub.length + cntL x.sub := ⟨_, rfl⟩
          obtain ⟨c2, hc2⟩ : ∃ c, c = dptL x.sub := ⟨_, rfl⟩
          rw [← hc1] at Hn2 hnb ⊢
          rw [← hc2] at Hm2 hmb ⊢
          have HB2 := Lib.hid (HB.out.trans (hB2.mono HB.out.size))
          clear hc1 hc2 y8 y9 hB2
          go_wp2_with fail
          go_roundw
          case rel => exact ⟨k + 1, n + c1, q2, by omega, Lib.hid (by rw [← Hq1.out]; exact Hn2.out), Lib.hid (by rw [← Hq2.out]), by go_num, by go_num, by rw [Hm2.out]; congr 1; omega, HB2.out⟩
          case measure => simp [intOf]; omega
      · obtain rfl : k = l.length := by omega
        have llt : ¬ ((l.length : Nat) : Int) < (l.length : Int) := by omega
        have hr := HR.out wo HB.out
        have e1 : n = l.length + cntL l := by rw [Hn.out, List.take_length]
        have e2 : m = dptL l := by rw [Hm.out, List.take_length]
        rw [← e1, ← e2] at hr
        clear e1 e2 hk
        go_wp2_with fail
        first | exact hr | exact fin hr rfl
theorem itemOk_bad {l : List It} {i : Nat} (hi : i < l.length) (h : itemOk l i = false) : finePat l = false := by
  unfold finePat listOk
  have : (List.range l.length).all (itemOk l) = false := by
    rw [List.all_eq_false]
    exact ⟨i, List.mem_range.2 hi, by rw [h]; simp⟩
  rw [this]; rfl
theorem itemOk_one {l : List It} {i : Nat} (hi : i < l.length) (h : itOne l[i] = false) : finePat l = false :=
  itemOk_bad hi (by unfold itemOk; rw [List.getD_eq_getElem?_getD, List.getElem?_eq_getElem hi]; simp [h])
theorem itemOk_alike {l : List It} {i k : Nat} (hi : i < l.length) (hk : k < i) (h : alikeB l[i] (l[k]'(by omega)) = true) : finePat l = false :=
  itemOk_bad hi (by
    unfold itemOk
    rw [Bool.and_eq_false_iff]
    right
    rw [List.all_eq_false]
    refine ⟨k, List.mem_range.2 hk, ?_⟩
    rw [List.getD_eq_getElem?_getD, List.getElem?_eq_getElem hi, List.getD_eq_getElem?_getD, List.getElem?_eq_getElem (by omega)]
    simp [h])
theorem itemOk_good {l : List It} {i : Nat} (hi : i < l.length) (h : itOne l[i] = true) (ha : ∀ k (hk : k < i), alikeB l[i] (l[k]'(by omega)) = false) : itemOk l i = true := by
  unfold itemOk
  rw [Bool.and_eq_true, List.all_eq_true]
  refine ⟨by rw [List.getD_eq_getElem?_getD, List.getElem?_eq_getElem hi]; exact h, fun k hk => ?_⟩
  have hk := List.mem_range.1 hk
  rw [List.getD_eq_getElem?_getD, List.getElem?_eq_getElem hi, List.getD_eq_getElem?_getD, List.getElem?_eq_getElem (by omega)]
  simp [ha k hk]
theorem fineI_bad {l : List It} {i : Nat} (hi : i < l.length) (h : l[i].fineI = false) : finePat l = false := by
  unfold finePat
  rw [fineA_all, Bool.and_eq_false_iff]
  right
  rw [List.all_eq_false]
  exact ⟨l[i], List.getElem_mem hi, by rw [h]; simp⟩
theorem fine_good {l : List It} (h : ∀ i (hi : i < l.length), itemOk l i = true ∧ l[i].fineI = true) : finePat l = true := by
  unfold finePat listOk
  rw [fineA_all, Bool.and_eq_true, List.all_eq_true, List.all_eq_true]
  refine ⟨fun i hi => (h i (List.mem_range.1 hi)).1, fun x hx => ?_⟩
  obtain ⟨i, hi, rfl⟩ := List.getElem_of_mem hx
  exact (h i hi).2
theorem its_zero {lo hi : Nat} {l : List It} {v : Value} {w : World} (hv : Its 0 lo hi w v l) : l = [] := by
  obtain ⟨_, _, _, _, _, _, h5⟩ := hv
  refine Classical.byContradiction fun hn => ?_
  obtain ⟨b, off, _, _, _, k3⟩ := h5 hn
  obtain ⟨cs, _, _, c3⟩ := k3 0 (List.length_pos_iff.2 hn)
  exact c3
set_option maxRecDepth 100000 in
set_option maxHeartbeats 16000000 in
theorem refFine_any : ∀ (d lo hi : Nat) (l : List It) (v : Value) (w : World) (hv : Its d lo hi w v l) (hhi : hi ≤ w.heap.size) (R : Ending → World → Prop)
    (hR : ∀ w', Below w.heap.size w w' → R (.returned (.bool (finePat l))) w'), Calls Try.prog 28 #[v] w R := by
  intro d
  induction d with
  | zero =>
    intro lo hi l v w hv hhi R hR
    obtain rfl := its_zero hv
    have hr := hR w (Below.refl _ _)
    obtain ⟨ao, cv, rfl, -, -, -, -⟩ := hv.form
    rw [show finePat [] = true from rfl] at hr
    clear hR hv
    simp only [List.length_nil]
    go_enter Try.func28, Try.ntmps28
    go_wp2_with fail
    go_loopw [3] (fun t3 wr => t3 = .int .i64 0 ∧ wr = w) (fun _ _ => 0)
    case atStart => exact ⟨rfl, rfl⟩
    case round =>
      obtain ⟨rfl, rfl⟩ := hrel
      have l00 : ¬ (0 : Int) < 0 := by decide
      go_wp2_with fail
      first | exact hr | exact fin hr rfl
  | succ d ih =>
    intro lo hi l v w hv hhi R hR
    have HR := Lib.hid hR
    have hl63 := hv.len
    have Hv := Lib.hid hv
    obtain ⟨ao, cv, rfl, -, -, -, -⟩ := hv.form
    clear hR hv
    go_enter Try.func28, Try.ntmps28
    go_wp2_with fail
    go_loopw [3] (fun t3 wr => ∃ i : Nat, i ≤ l.length ∧ Hid (∀ j (hj : j < l.length), j < i → itemOk l j = true ∧ l[j].fineI = true) ∧ t3 = .int .i64 i ∧ Below w.heap.size w wr) (fun t3 _ => l.length - (intOf t3).toNat)
    case atStart => exact ⟨0, Nat.zero_le _, Lib.hid (fun j _ h => absurd h (Nat.not_lt_zero _)), rfl, Below.refl _ _⟩
    case round =>
      obtain ⟨i, hi2, Hg, rfl, hB⟩ := hrel
      obtain ⟨wo, ewo⟩ : ∃ x, x = wr := ⟨_, rfl⟩
      subst ewo
      have HB := Lib.hid hB
      have hz := hB.size
      have ii0 : (0 : Int) ≤ (i : Int) := by omega
      clear hB
      by_cases hlt : i < l.length
      · have iil : (i : Int) < (l.length : Int) := by omega
        have Hx := Lib.hid (Sl.below Hv.out (itE_loc (d + 1)) HB.out hhi)
        obtain ⟨ao', cap', e', -, -, -, hc⟩ := Hx.out.form
        injection e' with e1 e2 e3
        subst e1 e3
        obtain ⟨b, off, rfl, hb1, hb2, hcc⟩ := hc i hlt
        obtain ⟨cs, -, hcs, hel⟩ := hcc i hlt
        have Hcc : Hid (∀ k (hk : k < l.length), ∃ sy, CellsAt wo b (off + k * 11) (l[k].encH sy)) := Lib.hid (fun k hk => by
          obtain ⟨cs, -, h1, h2⟩ := hcc k hk
          obtain ⟨-, sy, rfl, -⟩ := h2
          exact ⟨sy, h1⟩)
        have Hbl : Hid (b < wo.heap.size) := Lib.hid (by omega)
        have Hone : Hid (itOne l[i] = false → finePat l = false) := Lib.hid (itemOk_one hlt)
        have Hali : Hid (∀ k (hk : k < i), alikeB l[i] (l[k]'(by omega)) = true → finePat l = false) := Lib.hid (fun k hk => itemOk_alike hlt hk)
        have Hgood : Hid (itOne l[i] = true → (∀ k (hk : k < i), alikeB l[i] (l[k]'(by omega)) = false) → itemOk l i = true) := Lib.hid (itemOk_good hlt)
        have Hfin : Hid (l[i].fineI = false → finePat l = false) := Lib.hid (fineI_bad hlt)
        have Hnext : Hid (itemOk l i = true → l[i].fineI = true → ∀ j (hj : j < l.length), j < i + 1 → itemOk l j = true ∧ l[j].fineI = true) := Lib.hid (fun h1 h2 j hj hji => by
          by_cases e : j = i
          · subst e; exact ⟨h1, h2⟩
          · exact Hg.out j hj (by omega))
        clear hc hcc e2 hb1 hb2
        generalize l[i] = x at *
        obtain ⟨hlens, sv, rfl, hsub⟩ := hel
        have Hlens := Lib.hid hlens
        have Hsub := Lib.hid hsub
        obtain ⟨asv, csv, esv, -, -, -, -⟩ := hsub.form
        obtain ⟨y0, y1, y2, y3, y4, y5, y6, y7, y8, y9, y10⟩ := item_cells hcs
        rw [esv] at y9
        have Hci := Lib.hid hcs
        clear hcs hsub hlens
        go_wp2_with fail
        refine refOne_any x asv csv wo Hlens.out _ (fun w1 hB1 => ?_)
        have HB1 := Lib.hid (HB.out.trans (hB1.mono HB.out.size))
        have Hci1 := Lib.hid (Hci.out.agree (.below hB1 (Nat.le_refl _)) (Nat.zero_le _) Hbl.out)
        have Hsub1 := Lib.hid (Sl.below Hsub.out (itE_loc d) hB1 (by omega))
        have hz1 := hB1.size
        have Hbl1 : Hid (b < w1.heap.size) := Lib.hid (Nat.lt_of_lt_of_le Hbl.out hz1)
        have Hcc1 : Hid (∀ k (hk : k < l.length), ∃ sy, CellsAt w1 b (off + k * 11) (l[k].encH sy)) := Lib.hid (fun k hk => by
          obtain ⟨sy, h⟩ := Hcc.out k hk
          exact ⟨sy, h.agree (.below hB1 (Nat.le_refl _)) (Nat.zero_le _) Hbl.out⟩)
        clear y0 y1 y2 y3 y4 y5 y6 y7 y8 y9 y10 hB1
        cases h1 : itOne x with
        | false =>
          have hr := HR.out w1 HB1.out
          rw [Hone.out h1] at hr
          clear h1
          go_wp2_with fail
          first | exact hr | exact fin hr rfl
        | true =>
          have Ht := Lib.hid h1
          clear h1
          go_wp2_with fail
          go_loopw [5] (fun t5 wr => ∃ k : Nat, k ≤ i ∧ Hid (∀ j (hj : j < i), j < k → alikeB x (l[j]'(by omega)) = false) ∧ t5 = .int .i64 k ∧ Below w1.heap.size w1 wr) (fun t5 _ => i - (intOf t5).toNat)
          case atStart => exact ⟨0, Nat.zero_le _, Lib.hid (fun j _ h => absurd h (Nat.not_lt_zero _)), rfl, Below.refl _ _⟩
          case round =>
            obtain ⟨k, hk, Hno, rfl, hB2⟩ := hrel
            obtain ⟨wk, ewk⟩ : ∃ x, x = wr := ⟨_, rfl⟩
            subst ewk
            have HB2 := Lib.hid hB2
            have hz2 := hB2.size
            have kk0 : (0 : Int) ≤ (k : Int) := by omega
            clear hB2
            by_cases hki : k < i
            · have kki : (k : Int) < (i : Int) := by omega
              have kkl : (k : Int) < (l.length : Int) := by omega
              have hkl : k < l.length := by omega
              obtain ⟨sy, hcy⟩ := Hcc1.out k hkl
              have Hck := Lib.hid (hcy.agree (.below HB2.out (Nat.le_refl _)) (Nat.zero_le _) Hbl1.out)
              have Hci2 := Lib.hid (Hci1.out.agree (.below HB2.out (Nat.le_refl _)) (Nat.zero_le _) Hbl1.out)
              have Hbad : Hid (alikeB x l[k] = true → finePat l = false) := Lib.hid (Hali.out k hki)
              have Hnx : Hid (alikeB x l[k] = false → ∀ j (hj : j < i), j < k + 1 → alikeB x (l[j]'(by omega)) = false) := Lib.hid (fun h j hj hjk => by
                by_cases e : j = k
                · subst e; exact h
                · exact Hno.out j hj (by omega))
              clear Hci Hbl hcy
              have Hci := Hci2
              have Hbl : Hid (b < wk.heap.size) := Lib.hid (Nat.lt_of_lt_of_le Hbl1.out hz2)
              clear Hci2
              generalize l[k] = y at *
              go_upto_region 10 with fail
              by_cases c0 : x.wild = y.wild
              · by_cases c1 : x.attr = y.attr
                · by_cases c2 : x.back = y.back
                  · have q0 : (x.wild == y.wild) = true := by simpa using c0
                    have q1 : (x.attr == y.attr) = true := by simpa using c1
                    have q2 : (x.back == y.back) = true := by simpa using c2
                    have Hal : Hid (alikeB x y = true) := Lib.hid (by unfold alikeB; simp [c0, c1, c2])
                    have C0 := Lib.hid c0
                    clear c0
                    have C1 := Lib.hid c1
                    clear c1
                    have C2 := Lib.hid c2
                    clear c2
                    refine wp_region_held_drew (S := fun w' => Below wk.heap.size wk w') (by kernel_rfl) (Below.refl _ _).drew (fun hHeld => ?_)
                    refine wpAnyH_take (i := 0) (v := .slice (some ⟨b, off, none⟩) l.length cv) rfl (by kernel_rfl) (by kernel_rfl) (by kernel_rfl) (fun _ _ _ h => h) (Or.inl ⟨by rfl, ?_⟩) hHeld ?_
                    · intro w' hSw; go_simp
                    try simp only [ν1, ν2, ν3, ν4, ν5, ν6, ν7, ν8]
                    refine wpAnyH_take (i := 1) (v := .int .i64 ((i : Int))) rfl (by kernel_rfl) (by kernel_rfl) (by kernel_rfl) (fun _ _ _ h => h) (Or.inl ⟨by rfl, ?_⟩) hHeld ?_
                    · intro w' hSw; go_simp
                    try simp only [ν1, ν2, ν3, ν4, ν5, ν6, ν7, ν8]
                    refine wpAnyH_take (i := 2) (v := .pointer (some ⟨b, off + i * 11, none⟩)) rfl (by kernel_rfl) (by kernel_rfl) (by kernel_rfl) (fun _ _ _ h => h) (Or.inl ⟨by rfl, ?_⟩) hHeld ?_
                    · intro w' hSw; go_simp
                    try simp only [ν1, ν2, ν3, ν4, ν5, ν6, ν7, ν8]
                    refine wpAnyH_take (i := 3) (v := .pointer (some ⟨b, off + i * 11, none⟩)) rfl (by kernel_rfl) (by kernel_rfl) (by kernel_rfl) (fun _ _ _ h => h) (Or.inl ⟨by rfl, ?_⟩) hHeld ?_
                    · intro w' hSw; go_simp
                    try simp only [ν1, ν2, ν3, ν4, ν5, ν6, ν7, ν8]
                    refine wpAnyH_take (i := 4) (v := .bool x.wild) rfl (by kernel_rfl) (by kernel_rfl) (by kernel_rfl) (fun _ _ _ h => h) (Or.inl ⟨by rfl, ?_⟩) hHeld ?_
                    · intro w' hSw; have kc := (Hci.out.agree (.below hSw (Nat.le_refl _)) (Nat.zero_le _) Hbl.out); obtain ⟨k0, k1, k2, k3, k4, k5, k6, k7, k8, k9, k10⟩ := item_cells kc; go_simp
                    try simp only [ν1, ν2, ν3, ν4, ν5, ν6, ν7, ν8]
                    refine wpAnyH_take (i := 5) (v := .slice (some ⟨b, off, none⟩) l.length cv) rfl (by kernel_rfl) (by kernel_rfl) (by kernel_rfl) (fun _ _ _ h => h) (Or.inl ⟨by rfl, ?_⟩) hHeld ?_
                    · intro w' hSw; go_simp
                    try simp only [ν1, ν2, ν3, ν4, ν5, ν6, ν7, ν8]
                    refine wpAnyH_take (i := 6) (v := .int .i64 ((k : Int))) rfl (by kernel_rfl) (by kernel_rfl) (by kernel_rfl) (fun _ _ _ h => h) (Or.inl ⟨by rfl, ?_⟩) hHeld ?_
                    · intro w' hSw; go_simp
                    try simp only [ν1, ν2, ν3, ν4, ν5, ν6, ν7, ν8]
                    refine wpAnyH_take (i := 7) (v := .pointer (some ⟨b, off + k * 11, none⟩)) rfl (by kernel_rfl) (by kernel_rfl) (by kernel_rfl) (fun _ _ _ h => h) (Or.inl ⟨by rfl, ?_⟩) hHeld ?_
                    · intro w' hSw; go_simp
                    try simp only [ν1, ν2, ν3, ν4, ν5, ν6, ν7, ν8]
                    refine wpAnyH_take (i := 8) (v := .pointer (some ⟨b, off + k * 11, none⟩)) rfl (by kernel_rfl) (by kernel_rfl) (by kernel_rfl) (fun _ _ _ h => h) (Or.inl ⟨by rfl, ?_⟩) hHeld ?_
                    · intro w' hSw; go_simp
                    try simp only [ν1, ν2, ν3, ν4, ν5, ν6, ν7, ν8]
                    refine wpAnyH_take (i := 9) (v := .bool y.wild) rfl (by kernel_rfl) (by kernel_rfl) (by kernel_rfl) (fun _ _ _ h => h) (Or.inl ⟨by rfl, ?_⟩) hHeld ?_
                    · intro w' hSw; have kc := (Hck.out.agree (.below hSw (Nat.le_refl _)) (Nat.zero_le _) Hbl.out); obtain ⟨k0, k1, k2, k3, k4, k5, k6, k7, k8, k9, k10⟩ := item_cells kc; go_simp
                    try simp only [ν1, ν2, ν3, ν4, ν5, ν6, ν7, ν8]
                    refine wpAnyH_take (i := 10) (v := .bool true) rfl (by kernel_rfl) (by kernel_rfl) (by kernel_rfl) (fun _ _ _ h => h) (Or.inl ⟨by rfl, ?_⟩) hHeld ?_
                    · intro w' hSw; have kq := q0; go_simp
                    try simp only [ν1, ν2, ν3, ν4, ν5, ν6, ν7, ν8]
                    refine wpAnyH_take (i := 11) (v := .bool true) rfl (by kernel_rfl) (by kernel_rfl) (by kernel_rfl) (fun _ _ _ h => h) (Or.inl ⟨by rfl, ?_⟩) hHeld ?_
                    · intro w' hSw; go_simp
                    try simp only [ν1, ν2, ν3, ν4, ν5, ν6, ν7, ν8]
                    refine wpAnyH_take (i := 12) (v := .slice (some ⟨b, off, none⟩) l.length cv) rfl (by kernel_rfl) (by kernel_rfl) (by kernel_rfl) (fun _ _ _ h => h) (Or.inl ⟨by rfl, ?_⟩) hHeld ?_
                    · intro w' hSw; go_simp
                    try simp only [ν1, ν2, ν3, ν4, ν5, ν6, ν7, ν8]
                    refine wpAnyH_take (i := 13) (v := .int .i64 ((i : Int))) rfl (by kernel_rfl) (by kernel_rfl) (by kernel_rfl) (fun _ _ _ h => h) (Or.inl ⟨by rfl, ?_⟩) hHeld ?_
                    · intro w' hSw; go_simp
                    try simp only [ν1, ν2, ν3, ν4, ν5, ν6, ν7, ν8]
                    refine wpAnyH_take (i := 14) (v := .pointer (some ⟨b, off + i * 11, none⟩)) rfl (by kernel_rfl) (by kernel_rfl) (by kernel_rfl) (fun _ _ _ h => h) (Or.inl ⟨by rfl, ?_⟩) hHeld ?_
                    · intro w' hSw; go_simp
                    try simp only [ν1, ν2, ν3, ν4, ν5, ν6, ν7, ν8]
                    refine wpAnyH_take (i := 15) (v := .pointer (some ⟨b, off + i * 11 + 1, none⟩)) rfl (by kernel_rfl) (by kernel_rfl) (by kernel_rfl) (fun _ _ _ h => h) (Or.inl ⟨by rfl, ?_⟩) hHeld ?_
                    · intro w' hSw; go_simp
                    try simp only [ν1, ν2, ν3, ν4, ν5, ν6, ν7, ν8]
                    refine wpAnyH_take (i := 16) (v := .string ⟨x.attr.toArray⟩) rfl (by kernel_rfl) (by kernel_rfl) (by kernel_rfl) (fun _ _ _ h => h) (Or.inl ⟨by rfl, ?_⟩) hHeld ?_
                    · intro w' hSw; have kc := (Hci.out.agree (.below hSw (Nat.le_refl _)) (Nat.zero_le _) Hbl.out); obtain ⟨k0, k1, k2, k3, k4, k5, k6, k7, k8, k9, k10⟩ := item_cells kc; go_simp
                    try simp only [ν1, ν2, ν3, ν4, ν5, ν6, ν7, ν8]
                    refine wpAnyH_take (i := 17) (v := .slice (some ⟨b, off, none⟩) l.length cv) rfl (by kernel_rfl) (by kernel_rfl) (by kernel_rfl) (fun _ _ _ h => h) (Or.inl ⟨by rfl, ?_⟩) hHeld ?_
                    · intro w' hSw; go_simp
                    try simp only [ν1, ν2, ν3, ν4, ν5, ν6, ν7, ν8]
                    refine wpAnyH_take (i := 18) (v := .int .i64 ((k : Int))) rfl (by kernel_rfl) (by kernel_rfl) (by kernel_rfl) (fun _ _ _ h => h) (Or.inl ⟨by rfl, ?_⟩) hHeld ?_
                    · intro w' hSw; go_simp
                    try simp only [ν1, ν2, ν3, ν4, ν5, ν6, ν7, ν8]
                    refine wpAnyH_take (i := 19) (v := .pointer (some ⟨b, off + k * 11, none⟩)) rfl (by kernel_rfl) (by kernel_rfl) (by kernel_rfl) (fun _ _ _ h => h) (Or.inl ⟨by rfl, ?_⟩) hHeld ?_
                    · intro w' hSw; go_simp
                    try simp only [ν1, ν2, ν3, ν4, ν5, ν6, ν7, ν8]
                    refine wpAnyH_take (i := 20) (v := .pointer (some ⟨b, off + k * 11 + 1, none⟩)) rfl (by kernel_rfl) (by kernel_rfl) (by kernel_rfl) (fun _ _ _ h => h) (Or.inl ⟨by rfl, ?_⟩) hHeld ?_
                    · intro w' hSw; go_simp
                    try simp only [ν1, ν2, ν3, ν4, ν5, ν6, ν7, ν8]
                    refine wpAnyH_take (i := 21) (v := .string ⟨y.attr.toArray⟩) rfl (by kernel_rfl) (by kernel_rfl) (by kernel_rfl) (fun _ _ _ h => h) (Or.inl ⟨by rfl, ?_⟩) hHeld ?_
                    · intro w' hSw; have kc := (Hck.out.agree (.below hSw (Nat.le_refl _)) (Nat.zero_le _) Hbl.out); obtain ⟨k0, k1, k2, k3, k4, k5, k6, k7, k8, k9, k10⟩ := item_cells kc; go_simp
                    try simp only [ν1, ν2, ν3, ν4, ν5, ν6, ν7, ν8]
                    refine wpAnyH_take (i := 22) (v := .bool true) rfl (by kernel_rfl) (by kernel_rfl) (by kernel_rfl) (fun _ _ _ h => h) (Or.inl ⟨by rfl, ?_⟩) hHeld ?_
                    · intro w' hSw; have kq := q1; go_simp
                    try simp only [ν1, ν2, ν3, ν4, ν5, ν6, ν7, ν8]
                    refine wpAnyH_take (i := 23) (v := .bool true) rfl (by kernel_rfl) (by kernel_rfl) (by kernel_rfl) (fun _ _ _ h => h) (Or.inl ⟨by rfl, ?_⟩) hHeld ?_
                    · intro w' hSw; go_simp
                    try simp only [ν1, ν2, ν3, ν4, ν5, ν6, ν7, ν8]
                    refine wpAnyH_take (i := 24) (v := .bool true) rfl (by kernel_rfl) (by kernel_rfl) (by kernel_rfl) (fun _ _ _ h => h) (Or.inl ⟨by rfl, ?_⟩) hHeld ?_
                    · intro w' hSw; go_simp
                    try simp only [ν1, ν2, ν3, ν4, ν5, ν6, ν7, ν8]
                    refine wpAnyH_take (i := 25) (v := .slice (some ⟨b, off, none⟩) l.length cv) rfl (by kernel_rfl) (by kernel_rfl) (by kernel_rfl) (fun _ _ _ h => h) (Or.inl ⟨by rfl, ?_⟩) hHeld ?_
                    · intro w' hSw; go_simp
                    try simp only [ν1, ν2, ν3, ν4, ν5, ν6, ν7, ν8]
                    refine wpAnyH_take (i := 26) (v := .int .i64 ((i : Int))) rfl (by kernel_rfl) (by kernel_rfl) (by kernel_rfl) (fun _ _ _ h => h) (Or.inl ⟨by rfl, ?_⟩) hHeld ?_
                    · intro w' hSw; go_simp
                    try simp only [ν1, ν2, ν3, ν4, ν5, ν6, ν7, ν8]
                    refine wpAnyH_take (i := 27) (v := .pointer (some ⟨b, off + i * 11, none⟩)) rfl (by kernel_rfl) (by kernel_rfl) (by kernel_rfl) (fun _ _ _ h => h) (Or.inl ⟨by rfl, ?_⟩) hHeld ?_
                    · intro w' hSw; go_simp
                    try simp only [ν1, ν2, ν3, ν4, ν5, ν6, ν7, ν8]
                    refine wpAnyH_take (i := 28) (v := .pointer (some ⟨b, off + i * 11 + 2, none⟩)) rfl (by kernel_rfl) (by kernel_rfl) (by kernel_rfl) (fun _ _ _ h => h) (Or.inl ⟨by rfl, ?_⟩) hHeld ?_
                    · intro w' hSw; go_simp
                    try simp only [ν1, ν2, ν3, ν4, ν5, ν6, ν7, ν8]
                    refine wpAnyH_take (i := 29) (v := .bool x.back) rfl (by kernel_rfl) (by kernel_rfl) (by kernel_rfl) (fun _ _ _ h => h) (Or.inl ⟨by rfl, ?_⟩) hHeld ?_
                    · intro w' hSw; have kc := (Hci.out.agree (.below hSw (Nat.le_refl _)) (Nat.zero_le _) Hbl.out); obtain ⟨k0, k1, k2, k3, k4, k5, k6, k7, k8, k9, k10⟩ := item_cells kc; go_simp
                    try simp only [ν1, ν2, ν3, ν4, ν5, ν6, ν7, ν8]
                    refine wpAnyH_take (i := 30) (v := .slice (some ⟨b, off, none⟩) l.length cv) rfl (by kernel_rfl) (by kernel_rfl) (by kernel_rfl) (fun _ _ _ h => h) (Or.inl ⟨by rfl, ?_⟩) hHeld ?_
                    · intro w' hSw; go_simp
                    try simp only [ν1, ν2, ν3, ν4, ν5, ν6, ν7, ν8]
                    refine wpAnyH_take (i := 31) (v := .int .i64 ((k : Int))) rfl (by kernel_rfl) (by kernel_rfl) (by kernel_rfl) (fun _ _ _ h => h) (Or.inl ⟨by rfl, ?_⟩) hHeld ?_
                    · intro w' hSw; go_simp
                    try simp only [ν1, ν2, ν3, ν4, ν5, ν6, ν7, ν8]
                    refine wpAnyH_take (i := 32) (v := .pointer (some ⟨b, off + k * 11, none⟩)) rfl (by kernel_rfl) (by kernel_rfl) (by kernel_rfl) (fun _ _ _ h => h) (Or.inl ⟨by rfl, ?_⟩) hHeld ?_
                    · intro w' hSw; go_simp
                    try simp only [ν1, ν2, ν3, ν4, ν5, ν6, ν7, ν8]
                    refine wpAnyH_take (i := 33) (v := .pointer (some ⟨b, off + k * 11 + 2, none⟩)) rfl (by kernel_rfl) (by kernel_rfl) (by kernel_rfl) (fun _ _ _ h => h) (Or.inl ⟨by rfl, ?_⟩) hHeld ?_
                    · intro w' hSw; go_simp
                    try simp only [ν1, ν2, ν3, ν4, ν5, ν6, ν7, ν8]
                    refine wpAnyH_take (i := 34) (v := .bool y.back) rfl (by kernel_rfl) (by kernel_rfl) (by kernel_rfl) (fun _ _ _ h => h) (Or.inl ⟨by rfl, ?_⟩) hHeld ?_
                    · intro w' hSw; have kc := (Hck.out.agree (.below hSw (Nat.le_refl _)) (Nat.zero_le _) Hbl.out); obtain ⟨k0, k1, k2, k3, k4, k5, k6, k7, k8, k9, k10⟩ := item_cells kc; go_simp
                    try simp only [ν1, ν2, ν3, ν4, ν5, ν6, ν7, ν8]
                    refine wpAnyH_take (i := 35) (v := .bool true) rfl (by kernel_rfl) (by kernel_rfl) (by kernel_rfl) (fun _ _ _ h => h) (Or.inl ⟨by rfl, ?_⟩) hHeld ?_
                    · intro w' hSw; have kq := q2; go_simp
                    try simp only [ν1, ν2, ν3, ν4, ν5, ν6, ν7, ν8]
                    refine wpAnyH_take (i := 36) (v := .bool true) rfl (by kernel_rfl) (by kernel_rfl) (by kernel_rfl) (fun _ _ _ h => h) (Or.inl ⟨by rfl, ?_⟩) hHeld ?_
                    · intro w' hSw; go_simp
                    try simp only [ν1, ν2, ν3, ν4, ν5, ν6, ν7, ν8]
                    refine wpAnyH_done (by kernel_rfl) ?_ _
                    have hB3 := hHeld
                    clear hHeld
                    have hr := HR.out _ (HB1.out.trans ((HB2.out.trans (hB3.mono HB2.out.size)).mono HB1.out.size))
                    rw [Hbad.out Hal.out] at hr
                    go_wp2_with fail
                    first | exact hr | exact fin hr rfl
                  · have q0 : (x.wild == y.wild) = true := by simpa using c0
                    have q1 : (x.attr == y.attr) = true := by simpa using c1
                    have q2 : (x.back == y.back) = false := by simpa using c2
                    have Hal : Hid (alikeB x y = false) := Lib.hid (by unfold alikeB; simp [c0, c1, c2])
                    have C0 := Lib.hid c0
                    clear c0
                    have C1 := Lib.hid c1
                    clear c1
                    have C2 := Lib.hid c2
                    clear c2
                    refine wp_region_held_drew (S := fun w' => Below wk.heap.size wk w') (by kernel_rfl) (Below.refl _ _).drew (fun hHeld => ?_)
                    refine wpAnyH_take (i := 0) (v := .slice (some ⟨b, off, none⟩) l.length cv) rfl (by kernel_rfl) (by kernel_rfl) (by kernel_rfl) (fun _ _ _ h => h) (Or.inl ⟨by rfl, ?_⟩) hHeld ?_
                    · intro w' hSw; go_simp
                    try simp only [ν1, ν2, ν3, ν4, ν5, ν6, ν7, ν8]
                    refine wpAnyH_take (i := 1) (v := .int .i64 ((i : Int))) rfl (by kernel_rfl) (by kernel_rfl) (by kernel_rfl) (fun _ _ _ h => h) (Or.inl ⟨by rfl, ?_⟩) hHeld ?_
                    · intro w' hSw; go_simp
                    try simp only [ν1, ν2, ν3, ν4, ν5, ν6, ν7, ν8]
                    refine wpAnyH_take (i := 2) (v := .pointer (some ⟨b, off + i * 11, none⟩)) rfl (by kernel_rfl) (by kernel_rfl) (by kernel_rfl) (fun _ _ _ h => h) (Or.inl ⟨by rfl, ?_⟩) hHeld ?_
                    · intro w' hSw; go_simp
                    try simp only [ν1, ν2, ν3, ν4, ν5, ν6, ν7, ν8]
                    refine wpAnyH_take (i := 3) (v := .pointer (some ⟨b, off + i * 11, none⟩)) rfl (by kernel_rfl) (by kernel_rfl) (by kernel_rfl) (fun _ _ _ h => h) (Or.inl ⟨by rfl, ?_⟩) hHeld ?_
                    · intro w' hSw; go_simp
                    try simp only [ν1, ν2, ν3, ν4, ν5, ν6, ν7, ν8]
                    refine wpAnyH_take (i := 4) (v := .bool x.wild) rfl (by kernel_rfl) (by kernel_rfl) (by kernel_rfl) (fun _ _ _ h => h) (Or.inl ⟨by rfl, ?_⟩) hHeld ?_
                    · intro w' hSw; have kc := (Hci.out.agree (.below hSw (Nat.le_refl _)) (Nat.zero_le _) Hbl.out); obtain ⟨k0, k1, k2, k3, k4, k5, k6, k7, k8, k9, k10⟩ := item_cells kc; go_simp
                    try simp only [ν1, ν2, ν3, ν4, ν5, ν6, ν7, ν8]
                    refine wpAnyH_take (i := 5) (v := .slice (some ⟨b, off, none⟩) l.length cv) rfl (by kernel_rfl) (by kernel_rfl) (by kernel_rfl) (fun _ _ _ h => h) (Or.inl ⟨by rfl, ?_⟩) hHeld ?_
                    · intro w' hSw; go_simp
                    try simp only [ν1, ν2, ν3, ν4, ν5, ν6, ν7, ν8]
                    refine wpAnyH_take (i := 6) (v := .int .i64 ((k : Int))) rfl (by kernel_rfl) (by kernel_rfl) (by kernel_rfl) (fun _ _ _ h => h) (Or.inl ⟨by rfl, ?_⟩) hHeld ?_
                    · intro w' hSw; go_simp
                    try simp only [ν1, ν2, ν3, ν4, ν5, ν6, ν7, ν8]
                    refine wpAnyH_take (i := 7) (v := .pointer (some ⟨b, off + k * 11, none⟩)) rfl (by kernel_rfl) (by kernel_rfl) (by kernel_rfl) (fun _ _ _ h => h) (Or.inl ⟨by rfl, ?_⟩) hHeld ?_
                    · intro w' hSw; go_simp
                    try simp only [ν1, ν2, ν3, ν4, ν5, ν6, ν7, ν8]
                    refine wpAnyH_take (i := 8) (v := .pointer (some ⟨b, off + k * 11, none⟩)) rfl (by kernel_rfl) (by kernel_rfl) (by kernel_rfl) (fun _ _ _ h => h) (Or.inl ⟨by rfl, ?_⟩) hHeld ?_
                    · intro w' hSw; go_simp
                    try simp only [ν1, ν2, ν3, ν4, ν5, ν6, ν7, ν8]
                    refine wpAnyH_take (i := 9) (v := .bool y.wild) rfl (by kernel_rfl) (by kernel_rfl) (by kernel_rfl) (fun _ _ _ h => h) (Or.inl ⟨by rfl, ?_⟩) hHeld ?_
                    · intro w' hSw; have kc := (Hck.out.agree (.below hSw (Nat.le_refl _)) (Nat.zero_le _) Hbl.out); obtain ⟨k0, k1, k2, k3, k4, k5, k6, k7, k8, k9, k10⟩ := item_cells kc; go_simp
                    try simp only [ν1, ν2, ν3, ν4, ν5, ν6, ν7, ν8]
                    refine wpAnyH_take (i := 10) (v := .bool true) rfl (by kernel_rfl) (by kernel_rfl) (by kernel_rfl) (fun _ _ _ h => h) (Or.inl ⟨by rfl, ?_⟩) hHeld ?_
                    · intro w' hSw; have kq := q0; go_simp
                    try simp only [ν1, ν2, ν3, ν4, ν5, ν6, ν7, ν8]
                    refine wpAnyH_take (i := 11) (v := .bool true) rfl (by kernel_rfl) (by kernel_rfl) (by kernel_rfl) (fun _ _ _ h => h) (Or.inl ⟨by rfl, ?_⟩) hHeld ?_
                    · intro w' hSw; go_simp
                    try simp only [ν1, ν2, ν3, ν4, ν5, ν6, ν7, ν8]
                    refine wpAnyH_take (i := 12) (v := .slice (some ⟨b, off, none⟩) l.length cv) rfl (by kernel_rfl) (by kernel_rfl) (by kernel_rfl) (fun _ _ _ h => h) (Or.inl ⟨by rfl, ?_⟩) hHeld ?_
                    · intro w' hSw; go_simp
                    try simp only [ν1, ν2, ν3, ν4, ν5, ν6, ν7, ν8]
                    refine wpAnyH_take (i := 13) (v := .int .i64 ((i : Int))) rfl (by kernel_rfl) (by kernel_rfl) (by kernel_rfl) (fun _ _ _ h => h) (Or.inl ⟨by rfl, ?_⟩) hHeld ?_
                    · intro w' hSw; go_simp
                    try simp only [ν1, ν2, ν3, ν4, ν5, ν6, ν7, ν8]
                    refine wpAnyH_take (i := 14) (v := .pointer (some ⟨b, off + i * 11, none⟩)) rfl (by kernel_rfl) (by kernel_rfl) (by kernel_rfl) (fun _ _ _ h => h) (Or.inl ⟨by rfl, ?_⟩) hHeld ?_
                    · intro w' hSw; go_simp
                    try simp only [ν1, ν2, ν3, ν4, ν5, ν6, ν7, ν8]
                    refine wpAnyH_take (i := 15) (v := .pointer (some ⟨b, off + i * 11 + 1, none⟩)) rfl (by kernel_rfl) (by kernel_rfl) (by kernel_rfl) (fun _ _ _ h => h) (Or.inl ⟨by rfl, ?_⟩) hHeld ?_
                    · intro w' hSw; go_simp
                    try simp only [ν1, ν2, ν3, ν4, ν5, ν6, ν7, ν8]
                    refine wpAnyH_take (i := 16) (v := .string ⟨x.attr.toArray⟩) rfl (by kernel_rfl) (by kernel_rfl) (by kernel_rfl) (fun _ _ _ h => h) (Or.inl ⟨by rfl, ?_⟩) hHeld ?_
                    · intro w' hSw; have kc := (Hci.out.agree (.below hSw (Nat.le_refl _)) (Nat.zero_le _) Hbl.out); obtain ⟨k0, k1, k2, k3, k4, k5, k6, k7, k8, k9, k10⟩ := item_cells kc; go_simp
                    try simp only [ν1, ν2, ν3, ν4, ν5, ν6, ν7, ν8]
                    refine wpAnyH_take (i := 17) (v := .slice (some ⟨b, off, none⟩) l.length cv) rfl (by kernel_rfl) (by kernel_rfl) (by kernel_rfl) (fun _ _ _ h => h) (Or.inl ⟨by rfl, ?_⟩) hHeld ?_
                    · intro w' hSw; go_simp
                    try simp only [ν1, ν2, ν3, ν4, ν5, ν6, ν7, ν8]
                    refine wpAnyH_take (i := 18) (v := .int .i64 ((k : Int))) rfl (by kernel_rfl) (by kernel_rfl) (by kernel_rfl) (fun _ _ _ h => h) (Or.inl ⟨by rfl, ?_⟩) hHeld ?_
                    · intro w' hSw; go_simp
                    try simp only [ν1, ν2, ν3, ν4, ν5, ν6, ν7, ν8]
                    refine wpAnyH_take (i := 19) (v := .pointer (some ⟨b, off + k * 11, none⟩)) rfl (by kernel_rfl) (by kernel_rfl) (by kernel_rfl) (fun _ _ _ h => h) (Or.inl ⟨by rfl, ?_⟩) hHeld ?_
                    · intro w' hSw; go_simp
                    try simp only [ν1, ν2, ν3, ν4, ν5, ν6, ν7, ν8]
                    refine wpAnyH_take (i := 20) (v := .pointer (some ⟨b, off + k * 11 + 1, none⟩)) rfl (by kernel_rfl) (by kernel_rfl) (by kernel_rfl) (fun _ _ _ h => h) (Or.inl ⟨by rfl, ?_⟩) hHeld ?_
                    · intro w' hSw; go_simp
                    try simp only [ν1, ν2, ν3, ν4, ν5, ν6, ν7, ν8]
                    refine wpAnyH_take (i := 21) (v := .string ⟨y.attr.toArray⟩) rfl (by kernel_rfl) (by kernel_rfl) (by kernel_rfl) (fun _ _ _ h => h) (Or.inl ⟨by rfl, ?_⟩) hHeld ?_
                    · intro w' hSw; have kc := (Hck.out.agree (.below hSw (Nat.le_refl _)) (Nat.zero_le _) Hbl.out); obtain ⟨k0, k1, k2, k3, k4, k5, k6, k7, k8, k9, k10⟩ := item_cells kc; go_simp
                    try simp only [ν1, ν2, ν3, ν4, ν5, ν6, ν7, ν8]
                    refine wpAnyH_take (i := 22) (v := .bool true) rfl (by kernel_rfl) (by kernel_rfl) (by kernel_rfl) (fun _ _ _ h => h) (Or.inl ⟨by rfl, ?_⟩) hHeld ?_
                    · intro w' hSw; have kq := q1; go_simp
                    try simp only [ν1, ν2, ν3, ν4, ν5, ν6, ν7, ν8]
                    refine wpAnyH_take (i := 23) (v := .bool true) rfl (by kernel_rfl) (by kernel_rfl) (by kernel_rfl) (fun _ _ _ h => h) (Or.inl ⟨by rfl, ?_⟩) hHeld ?_
                    · intro w' hSw; go_simp
                    try simp only [ν1, ν2, ν3, ν4, ν5, ν6, ν7, ν8]
                    refine wpAnyH_take (i := 24) (v := .bool true) rfl (by kernel_rfl) (by kernel_rfl) (by kernel_rfl) (fun _ _ _ h => h) (Or.inl ⟨by rfl, ?_⟩) hHeld ?_
                    · intro w' hSw; go_simp
                    try simp only [ν1, ν2, ν3, ν4, ν5, ν6, ν7, ν8]
                    refine wpAnyH_take (i := 25) (v := .slice (some ⟨b, off, none⟩) l.length cv) rfl (by kernel_rfl) (by kernel_rfl) (by kernel_rfl) (fun _ _ _ h => h) (Or.inl ⟨by rfl, ?_⟩) hHeld ?_
                    · intro w' hSw; go_simp
                    try simp only [ν1, ν2, ν3, ν4, ν5, ν6, ν7, ν8]
                    refine wpAnyH_take (i := 26) (v := .int .i64 ((i : Int))) rfl (by kernel_rfl) (by kernel_rfl) (by kernel_rfl) (fun _ _ _ h => h) (Or.inl ⟨by rfl, ?_⟩) hHeld ?_
                    · intro w' hSw; go_simp
                    try simp only [ν1, ν2, ν3, ν4, ν5, ν6, ν7, ν8]
                    refine wpAnyH_take (i := 27) (v := .pointer (some ⟨b, off + i * 11, none⟩)) rfl (by kernel_rfl) (by kernel_rfl) (by kernel_rfl) (fun _ _ _ h => h) (Or.inl ⟨by rfl, ?_⟩) hHeld ?_
                    · intro w' hSw; go_simp
                    try simp only [ν1, ν2, ν3, ν4, ν5, ν6, ν7, ν8]
                    refine wpAnyH_take (i := 28) (v := .pointer (some ⟨b, off + i * 11 + 2, none⟩)) rfl (by kernel_rfl) (by kernel_rfl) (by kernel_rfl) (fun _ _ _ h => h) (Or.inl ⟨by rfl, ?_⟩) hHeld ?_
                    · intro w' hSw; go_simp
                    try simp only [ν1, ν2, ν3, ν4, ν5, ν6, ν7, ν8]
                    refine wpAnyH_take (i := 29) (v := .bool x.back) rfl (by kernel_rfl) (by kernel_rfl) (by kernel_rfl) (fun _ _ _ h => h) (Or.inl ⟨by rfl, ?_⟩) hHeld ?_
                    · intro w' hSw; have kc := (Hci.out.agree (.below hSw (Nat.le_refl _)) (Nat.zero_le _) Hbl.out); obtain ⟨k0, k1, k2, k3, k4, k5, k6, k7, k8, k9, k10⟩ := item_cells kc; go_simp
                    try simp only [ν1, ν2, ν3, ν4, ν5, ν6, ν7, ν8]
                    refine wpAnyH_take (i := 30) (v := .slice (some ⟨b, off, none⟩) l.length cv) rfl (by kernel_rfl) (by kernel_rfl) (by kernel_rfl) (fun _ _ _ h => h) (Or.inl ⟨by rfl, ?_⟩) hHeld ?_
                    · intro w' hSw; go_simp
                    try simp only [ν1, ν2, ν3, ν4, ν5, ν6, ν7, ν8]
                    refine wpAnyH_take (i := 31) (v := .int .i64 ((k : Int))) rfl (by kernel_rfl) (by kernel_rfl) (by kernel_rfl) (fun _ _ _ h => h) (Or.inl ⟨by rfl, ?_⟩) hHeld ?_
                    · intro w' hSw; go_simp
                    try simp only [ν1, ν2, ν3, ν4, ν5, ν6, ν7, ν8]
                    refine wpAnyH_take (i := 32) (v := .pointer (some ⟨b, off + k * 11, none⟩)) rfl (by kernel_rfl) (by kernel_rfl) (by kernel_rfl) (fun _ _ _ h => h) (Or.inl ⟨by rfl, ?_⟩) hHeld ?_
                    · intro w' hSw; go_simp
                    try simp only [ν1, ν2, ν3, ν4, ν5, ν6, ν7, ν8]
                    refine wpAnyH_take (i := 33) (v := .pointer (some ⟨b, off + k * 11 + 2, none⟩)) rfl (by kernel_rfl) (by kernel_rfl) (by kernel_rfl) (fun _ _ _ h => h) (Or.inl ⟨by rfl, ?_⟩) hHeld ?_
                    · intro w' hSw; go_simp
                    try simp only [ν1, ν2, ν3, ν4, ν5, ν6, ν7, ν8]
                    refine wpAnyH_take (i := 34) (v := .bool y.back) rfl (by kernel_rfl) (by kernel_rfl) (by kernel_rfl) (fun _ _ _ h => h) (Or.inl ⟨by rfl, ?_⟩) hHeld ?_
                    · intro w' hSw; have kc := (Hck.out.agree (.below hSw (Nat.le_refl _)) (Nat.zero_le _) Hbl.out); obtain ⟨k0, k1, k2, k3, k4, k5, k6, k7, k8, k9, k10⟩ := item_cells kc; go_simp
                    try simp only [ν1, ν2, ν3, ν4, ν5, ν6, ν7, ν8]
                    refine wpAnyH_take (i := 35) (v := .bool false) rfl (by kernel_rfl) (by kernel_rfl) (by kernel_rfl) (fun _ _ _ h => h) (Or.inl ⟨by rfl, ?_⟩) hHeld ?_
                    · intro w' hSw; have kq := q2; go_simp
                    try simp only [ν1, ν2, ν3, ν4, ν5, ν6, ν7, ν8]
                    refine wpAnyH_take (i := 36) (v := .bool false) rfl (by kernel_rfl) (by kernel_rfl) (by kernel_rfl) (fun _ _ _ h => h) (Or.inl ⟨by rfl, ?_⟩) hHeld ?_
                    · intro w' hSw; go_simp
                    try simp only [ν1, ν2, ν3, ν4, ν5, ν6, ν7, ν8]
                    refine wpAnyH_done (by kernel_rfl) ?_ _
                    have hB3 := hHeld
                    clear hHeld
                    go_wp2_with fail
                    go_roundw
                    case rel => exact ⟨k + 1, by omega, Lib.hid (Hnx.out Hal.out), by go_num, HB2.out.trans (hB3.mono HB2.out.size)⟩
                    case measure => simp [intOf]; omega
                · have q0 : (x.wild == y.wild) = true := by simpa using c0
                  have q1 : (x.attr == y.attr) = false := by simpa using c1
                  have Hal : Hid (alikeB x y = false) := Lib.hid (by unfold alikeB; simp [c0, c1])
                  have C0 := Lib.hid c0
                  clear c0
                  have C1 := Lib.hid c1
                  clear c1
                  refine wp_region_held_drew (S := fun w' => Below wk.heap.size wk w') (by kernel_rfl) (Below.refl _ _).drew (fun hHeld => ?_)
                  refine wpAnyH_take (i := 0) (v := .slice (some ⟨b, off, none⟩) l.length cv) rfl (by kernel_rfl) (by kernel_rfl) (by kernel_rfl) (fun _ _ _ h => h) (Or.inl ⟨by rfl, ?_⟩) hHeld ?_
                  · intro w' hSw; go_simp
                  try simp only [ν1, ν2, ν3, ν4, ν5, ν6, ν7, ν8]
                  refine wpAnyH_take (i := 1) (v := .int .i64 ((i : Int))) rfl (by kernel_rfl) (by kernel_rfl) (by kernel_rfl) (fun _ _ _ h => h) (Or.inl ⟨by rfl, ?_⟩) hHeld ?_
                  · intro w' hSw; go_simp
                  try simp only [ν1, ν2, ν3, ν4, ν5, ν6, ν7, ν8]
                  refine wpAnyH_take (i := 2) (v := .pointer (some ⟨b, off + i * 11, none⟩)) rfl (by kernel_rfl) (by kernel_rfl) (by kernel_rfl) (fun _ _ _ h => h) (Or.inl ⟨by rfl, ?_⟩) hHeld ?_
                  · intro w' hSw; go_simp
                  try simp only [ν1, ν2, ν3, ν4, ν5, ν6, ν7, ν8]
                  refine wpAnyH_take (i := 3) (v := .pointer (some ⟨b, off + i * 11, none⟩)) rfl (by kernel_rfl) (by kernel_rfl) (by kernel_rfl) (fun _ _ _ h => h) (Or.inl ⟨by rfl, ?_⟩) hHeld ?_
                  · intro w' hSw; go_simp
                  try simp only [ν1, ν2, ν3, ν4, ν5, ν6, ν7, ν8]
                  refine wpAnyH_take (i := 4) (v := .bool x.wild) rfl (by kernel_rfl) (by kernel_rfl) (by kernel_rfl) (fun _ _ _ h => h) (Or.inl ⟨by rfl, ?_⟩) hHeld ?_
                  · intro w' hSw; have kc := (Hci.out.agree (.below hSw (Nat.le_refl _)) (Nat.zero_le _) Hbl.out); obtain ⟨k0, k1, k2, k3, k4, k5, k6, k7, k8, k9, k10⟩ := item_cells kc; go_simp
                  try simp only [ν1, ν2, ν3, ν4, ν5, ν6, ν7, ν8]
                  refine wpAnyH_take (i := 5) (v := .slice (some ⟨b, off, none⟩) l.length cv) rfl (by kernel_rfl) (by kernel_rfl) (by kernel_rfl) (fun _ _ _ h => h) (Or.inl ⟨by rfl, ?_⟩) hHeld ?_
                  · intro w' hSw; go_simp
                  try simp only [ν1, ν2, ν3, ν4, ν5, ν6, ν7, ν8]
                  refine wpAnyH_take (i := 6) (v := .int .i64 ((k : Int))) rfl (by kernel_rfl) (by kernel_rfl) (by kernel_rfl) (fun _ _ _ h => h) (Or.inl ⟨by rfl, ?_⟩) hHeld ?_
                  · intro w' hSw; go_simp
                  try simp only [ν1, ν2, ν3, ν4, ν5, ν6, ν7, ν8]
                  refine wpAnyH_take (i := 7) (v := .pointer (some ⟨b, off + k * 11, none⟩)) rfl (by kernel_rfl) (by kernel_rfl) (by kernel_rfl) (fun _ _ _ h => h) (Or.inl ⟨by rfl, ?_⟩) hHeld ?_
                  · intro w' hSw; go_simp
                  try simp only [ν1, ν2, ν3, ν4, ν5, ν6, ν7, ν8]
                  refine wpAnyH_take (i := 8) (v := .pointer (some ⟨b, off + k * 11, none⟩)) rfl (by kernel_rfl) (by kernel_rfl) (by kernel_rfl) (fun _ _ _ h => h) (Or.inl ⟨by rfl, ?_⟩) hHeld ?_
                  · intro w' hSw; go_simp
                  try simp only [ν1, ν2, ν3, ν4, ν5, ν6, ν7, ν8]
                  refine wpAnyH_take (i := 9) (v := .bool y.wild) rfl (by kernel_rfl) (by kernel_rfl) (by kernel_rfl) (fun _ _ _ h => h) (Or.inl ⟨by rfl, ?_⟩) hHeld ?_
                  · intro w' hSw; have kc := (Hck.out.agree (.below hSw (Nat.le_refl _)) (Nat.zero_le _) Hbl.out); obtain ⟨k0, k1, k2, k3, k4, k5, k6, k7, k8, k9, k10⟩ := item_cells kc; go_simp
                  try simp only [ν1, ν2, ν3, ν4, ν5, ν6, ν7, ν8]
                  refine wpAnyH_take (i := 10) (v := .bool true) rfl (by kernel_rfl) (by kernel_rfl) (by kernel_rfl) (fun _ _ _ h => h) (Or.inl ⟨by rfl, ?_⟩) hHeld ?_
                  · intro w' hSw; have kq := q0; go_simp
                  try simp only [ν1, ν2, ν3, ν4, ν5, ν6, ν7, ν8]
                  refine wpAnyH_take (i := 11) (v := .bool true) rfl (by kernel_rfl) (by kernel_rfl) (by kernel_rfl) (fun _ _ _ h => h) (Or.inl ⟨by rfl, ?_⟩) hHeld ?_
                  · intro w' hSw; go_simp
                  try simp only [ν1, ν2, ν3, ν4, ν5, ν6, ν7, ν8]
                  refine wpAnyH_take (i := 12) (v := .slice (some ⟨b, off, none⟩) l.length cv) rfl (by kernel_rfl) (by kernel_rfl) (by kernel_rfl) (fun _ _ _ h => h) (Or.inl ⟨by rfl, ?_⟩) hHeld ?_
                  · intro w' hSw; go_simp
                  try simp only [ν1, ν2, ν3, ν4, ν5, ν6, ν7, ν8]
                  refine wpAnyH_take (i := 13) (v := .int .i64 ((i : Int))) rfl (by kernel_rfl) (by kernel_rfl) (by kernel_rfl) (fun _ _ _ h => h) (Or.inl ⟨by rfl, ?_⟩) hHeld ?_
                  · intro w' hSw; go_simp
                  try simp only [ν1, ν2, ν3, ν4, ν5, ν6, ν7, ν8]
                  refine wpAnyH_take (i := 14) (v := .pointer (some ⟨b, off + i * 11, none⟩)) rfl (by kernel_rfl) (by kernel_rfl) (by kernel_rfl) (fun _ _ _ h => h) (Or.inl ⟨by rfl, ?_⟩) hHeld ?_
                  · intro w' hSw; go_simp
                  try simp only [ν1, ν2, ν3, ν4, ν5, ν6, ν7, ν8]
                  refine wpAnyH_take (i := 15) (v := .pointer (some ⟨b, off + i * 11 + 1, none⟩)) rfl (by kernel_rfl) (by kernel_rfl) (by kernel_rfl) (fun _ _ _ h => h) (Or.inl ⟨by rfl, ?_⟩) hHeld ?_
                  · intro w' hSw; go_simp
                  try simp only [ν1, ν2, ν3, ν4, ν5, ν6, ν7, ν8]
                  refine wpAnyH_take (i := 16) (v := .string ⟨x.attr.toArray⟩) rfl (by kernel_rfl) (by kernel_rfl) (by kernel_rfl) (fun _ _ _ h => h) (Or.inl ⟨by rfl, ?_⟩) hHeld ?_
                  · intro w' hSw; have kc := (Hci.out.agree (.below hSw (Nat.le_refl _)) (Nat.zero_le _) Hbl.out); obtain ⟨k0, k1, k2, k3, k4, k5, k6, k7, k8, k9, k10⟩ := item_cells kc; go_simp
                  try simp only [ν1, ν2, ν3, ν4, ν5, ν6, ν7, ν8]
                  refine wpAnyH_take (i := 17) (v := .slice (some ⟨b, off, none⟩) l.length cv) rfl (by kernel_rfl) (by kernel_rfl) (by kernel_rfl) (fun _ _ _ h => h) (Or.inl ⟨by rfl, ?_⟩) hHeld ?_
                  · intro w' hSw; go_simp
                  try simp only [ν1, ν2, ν3, ν4, ν5, ν6, ν7, ν8]
                  refine wpAnyH_take (i := 18) (v := .int .i64 ((k : Int))) rfl (by kernel_rfl) (by kernel_rfl) (by kernel_rfl) (fun _ _ _ h => h) (Or.inl ⟨by rfl, ?_⟩) hHeld ?_
                  · intro w' hSw; go_simp
                  try simp only [ν1, ν2, ν3, ν4, ν5, ν6, ν7, ν8]
                  refine wpAnyH_take (i := 19) (v := .pointer (some ⟨b, off + k * 11, none⟩)) rfl (by kernel_rfl) (by kernel_rfl) (by kernel_rfl) (fun _ _ _ h => h) (Or.inl ⟨by rfl, ?_⟩) hHeld ?_
                  · intro w' hSw; go_simp
                  try simp only [ν1, ν2, ν3, ν4, ν5, ν6, ν7, ν8]
                  refine wpAnyH_take (i := 20) (v := .pointer (some ⟨b, off + k * 11 + 1, none⟩)) rfl (by kernel_rfl) (by kernel_rfl) (by kernel_rfl) (fun _ _ _ h => h) (Or.inl ⟨by rfl, ?_⟩) hHeld ?_
                  · intro w' hSw; go_simp
                  try simp only [ν1, ν2, ν3, ν4, ν5, ν6, ν7, ν8]
                  refine wpAnyH_take (i := 21) (v := .string ⟨y.attr.toArray⟩) rfl (by kernel_rfl) (by kernel_rfl) (by kernel_rfl) (fun _ _ _ h => h) (Or.inl ⟨by rfl, ?_⟩) hHeld ?_
                  · intro w' hSw; have kc := (Hck.out.agree (.below hSw (Nat.le_refl _)) (Nat.zero_le _) Hbl.out); obtain ⟨k0, k1, k2, k3, k4, k5, k6, k7, k8, k9, k10⟩ := item_cells kc; go_simp
                  try simp only [ν1, ν2, ν3, ν4, ν5, ν6, ν7, ν8]
                  refine wpAnyH_take (i := 22) (v := .bool false) rfl (by kernel_rfl) (by kernel_rfl) (by kernel_rfl) (fun _ _ _ h => h) (Or.inl ⟨by rfl, ?_⟩) hHeld ?_
                  · intro w' hSw; have kq := q1; go_simp
                  try simp only [ν1, ν2, ν3, ν4, ν5, ν6, ν7, ν8]
                  refine wpAnyH_take (i := 23) (v := .bool false) rfl (by kernel_rfl) (by kernel_rfl) (by kernel_rfl) (fun _ _ _ h => h) (Or.inl ⟨by rfl, ?_⟩) hHeld ?_
                  · intro w' hSw; go_simp
                  try simp only [ν1, ν2, ν3, ν4, ν5, ν6, ν7, ν8]
                  refine wpAnyH_take (i := 24) (v := .bool false) rfl (by kernel_rfl) (by kernel_rfl) (by kernel_rfl) (fun _ _ _ h => h) (Or.inl ⟨by rfl, ?_⟩) hHeld ?_
                  · intro w' hSw; go_simp
                  try simp only [ν1, ν2, ν3, ν4, ν5, ν6, ν7, ν8]
                  refine wpAnyH_take (i := 25) (v := undef) rfl (by kernel_rfl) (by kernel_rfl) (by kernel_rfl) (fun _ _ _ h => h) (Or.inr ⟨by kernel_rfl, rfl⟩) hHeld ?_
                  try simp only [ν1, ν2, ν3, ν4, ν5, ν6, ν7, ν8]
                  refine wpAnyH_take (i := 26) (v := undef) rfl (by kernel_rfl) (by kernel_rfl) (by kernel_rfl) (fun _ _ _ h => h) (Or.inr ⟨by kernel_rfl, rfl⟩) hHeld ?_
                  try simp only [ν1, ν2, ν3, ν4, ν5, ν6, ν7, ν8]
                  refine wpAnyH_take (i := 27) (v := undef) rfl (by kernel_rfl) (by kernel_rfl) (by kernel_rfl) (fun _ _ _ h => h) (Or.inr ⟨by kernel_rfl, rfl⟩) hHeld ?_
                  try simp only [ν1, ν2, ν3, ν4, ν5, ν6, ν7, ν8]
                  refine wpAnyH_take (i := 28) (v := undef) rfl (by kernel_rfl) (by kernel_rfl) (by kernel_rfl) (fun _ _ _ h => h) (Or.inr ⟨by kernel_rfl, rfl⟩) hHeld ?_
                  try simp only [ν1, ν2, ν3, ν4, ν5, ν6, ν7, ν8]
                  refine wpAnyH_take (i := 29) (v := undef) rfl (by kernel_rfl) (by kernel_rfl) (by kernel_rfl) (fun _ _ _ h => h) (Or.inr ⟨by kernel_rfl, rfl⟩) hHeld ?_
                  try simp only [ν1, ν2, ν3, ν4, ν5, ν6, ν7, ν8]
                  refine wpAnyH_take (i := 30) (v := undef) rfl (by kernel_rfl) (by kernel_rfl) (by kernel_rfl) (fun _ _ _ h => h) (Or.inr ⟨by kernel_rfl, rfl⟩) hHeld ?_
                  try simp only [ν1, ν2, ν3, ν4, ν5, ν6, ν7, ν8]
                  refine wpAnyH_take (i := 31) (v := undef) rfl (by kernel_rfl) (by kernel_rfl) (by kernel_rfl) (fun _ _ _ h => h) (Or.inr ⟨by kernel_rfl, rfl⟩) hHeld ?_
                  try simp only [ν1, ν2, ν3, ν4, ν5, ν6, ν7, ν8]
                  refine wpAnyH_take (i := 32) (v := undef) rfl (by kernel_rfl) (by kernel_rfl) (by kernel_rfl) (fun _ _ _ h => h) (Or.inr ⟨by kernel_rfl, rfl⟩) hHeld ?_
                  try simp only [ν1, ν2, ν3, ν4, ν5, ν6, ν7, ν8]
                  refine wpAnyH_take (i := 33) (v := undef) rfl (by kernel_rfl) (by kernel_rfl) (by kernel_rfl) (fun _ _ _ h => h) (Or.inr ⟨by kernel_rfl, rfl⟩) hHeld ?_
                  try simp only [ν1, ν2, ν3, ν4, ν5, ν6, ν7, ν8]
                  refine wpAnyH_take (i := 34) (v := undef) rfl (by kernel_rfl) (by kernel_rfl) (by kernel_rfl) (fun _ _ _ h => h) (Or.inr ⟨by kernel_rfl, rfl⟩) hHeld ?_
                  try simp only [ν1, ν2, ν3, ν4, ν5, ν6, ν7, ν8]
                  refine wpAnyH_take (i := 35) (v := undef) rfl (by kernel_rfl) (by kernel_rfl) (by kernel_rfl) (fun _ _ _ h => h) (Or.inr ⟨by kernel_rfl, rfl⟩) hHeld ?_
                  try simp only [ν1, ν2, ν3, ν4, ν5, ν6, ν7, ν8]
                  refine wpAnyH_take (i := 36) (v := .bool false) rfl (by kernel_rfl) (by kernel_rfl) (by kernel_rfl) (fun _ _ _ h => h) (Or.inl ⟨by rfl, ?_⟩) hHeld ?_
                  · intro w' hSw; go_simp
                  try simp only [ν1, ν2, ν3, ν4, ν5, ν6, ν7, ν8]
                  refine wpAnyH_done (by kernel_rfl) ?_ _
                  have hB3 := hHeld
                  clear hHeld
                  go_wp2_with fail
                  go_roundw
                  case rel => exact ⟨k + 1, by omega, Lib.hid (Hnx.out Hal.out), by go_num, HB2.out.trans (hB3.mono HB2.out.size)⟩
                  case measure => simp [intOf]; omega
              · have q0 : (x.wild == y.wild) = false := by simpa using c0
                have Hal : Hid (alikeB x y = false) := Lib.hid (by unfold alikeB; simp [c0])
                have C0 := Lib.hid c0
                clear c0
                refine wp_region_held_drew (S := fun w' => Below wk.heap.size wk w') (by kernel_rfl) (Below.refl _ _).drew (fun hHeld => ?_)
                refine wpAnyH_take (i := 0) (v := .slice (some ⟨b, off, none⟩) l.length cv) rfl (by kernel_rfl) (by kernel_rfl) (by kernel_rfl) (fun _ _ _ h => h) (Or.inl ⟨by rfl, ?_⟩) hHeld ?_
                · intro w' hSw; go_simp
                try simp only [ν1, ν2, ν3, ν4, ν5, ν6, ν7, ν8]
                refine wpAnyH_take (i := 1) (v := .int .i64 ((i : Int))) rfl (by kernel_rfl) (by kernel_rfl) (by kernel_rfl) (fun _ _ _ h => h) (Or.inl ⟨by rfl, ?_⟩) hHeld ?_
                · intro w' hSw; go_simp
                try simp only [ν1, ν2, ν3, ν4, ν5, ν6, ν7, ν8]
                refine wpAnyH_take (i := 2) (v := .pointer (some ⟨b, off + i * 11, none⟩)) rfl (by kernel_rfl) (by kernel_rfl) (by kernel_rfl) (fun _ _ _ h => h) (Or.inl ⟨by rfl, ?_⟩) hHeld ?_
                · intro w' hSw; go_simp
                try simp only [ν1, ν2, ν3, ν4, ν5, ν6, ν7, ν8]
                refine wpAnyH_take (i := 3) (v := .pointer (some ⟨b, off + i * 11, none⟩)) rfl (by kernel_rfl) (by kernel_rfl) (by kernel_rfl) (fun _ _ _ h => h) (Or.inl ⟨by rfl, ?_⟩) hHeld ?_
                · intro w' hSw; go_simp
                try simp only [ν1, ν2, ν3, ν4, ν5, ν6, ν7, ν8]
                refine wpAnyH_take (i := 4) (v := .bool x.wild) rfl (by kernel_rfl) (by kernel_rfl) (by kernel_rfl) (fun _ _ _ h => h) (Or.inl ⟨by rfl, ?_⟩) hHeld ?_
                · intro w' hSw; have kc := (Hci.out.agree (.below hSw (Nat.le_refl _)) (Nat.zero_le _) Hbl.out); obtain ⟨k0, k1, k2, k3, k4, k5, k6, k7, k8, k9, k10⟩ := item_cells kc; go_simp
                try simp only [ν1, ν2, ν3, ν4, ν5, ν6, ν7, ν8]
                refine wpAnyH_take (i := 5) (v := .slice (some ⟨b, off, none⟩) l.length cv) rfl (by kernel_rfl) (by kernel_rfl) (by kernel_rfl) (fun _ _ _ h => h) (Or.inl ⟨by rfl, ?_⟩) hHeld ?_
                · intro w' hSw; go_simp
                try simp only [ν1, ν2, ν3, ν4, ν5, ν6, ν7, ν8]
                refine wpAnyH_take (i := 6) (v := .int .i64 ((k : Int))) rfl (by kernel_rfl) (by kernel_rfl) (by kernel_rfl) (fun _ _ _ h => h) (Or.inl ⟨by rfl, ?_⟩) hHeld ?_
                · intro w' hSw; go_simp
                try simp only [ν1, ν2, ν3, ν4, ν5, ν6, ν7, ν8]
                refine wpAnyH_take (i := 7) (v := .pointer (some ⟨b, off + k * 11, none⟩)) rfl (by kernel_rfl) (by kernel_rfl) (by kernel_rfl) (fun _ _ _ h => h) (Or.inl ⟨by rfl, ?_⟩) hHeld ?_
                · intro w' hSw; go_simp
                try simp only [ν1, ν2, ν3, ν4, ν5, ν6, ν7, ν8]
                refine wpAnyH_take (i := 8) (v := .pointer (some ⟨b, off + k * 11, none⟩)) rfl (by kernel_rfl) (by kernel_rfl) (by kernel_rfl) (fun _ _ _ h => h) (Or.inl ⟨by rfl, ?_⟩) hHeld ?_
                · intro w' hSw; go_simp
                try simp only [ν1, ν2, ν3, ν4, ν5, ν6, ν7, ν8]
                refine wpAnyH_take (i := 9) (v := .bool y.wild) rfl (by kernel_rfl) (by kernel_rfl) (by kernel_rfl) (fun _ _ _ h => h) (Or.inl ⟨by rfl, ?_⟩) hHeld ?_
                · intro w' hSw; have kc := (Hck.out.agree (.below hSw (Nat.le_refl _)) (Nat.zero_le _) Hbl.out); obtain ⟨k0, k1, k2, k3, k4, k5, k6, k7, k8, k9, k10⟩ := item_cells kc; go_simp
                try simp only [ν1, ν2, ν3, ν4, ν5, ν6, ν7, ν8]
                refine wpAnyH_take (i := 10) (v := .bool false) rfl (by kernel_rfl) (by kernel_rfl) (by kernel_rfl) (fun _ _ _ h => h) (Or.inl ⟨by rfl, ?_⟩) hHeld ?_
                · intro w' hSw; have kq := q0; go_simp
                try simp only [ν1, ν2, ν3, ν4, ν5, ν6, ν7, ν8]
                refine wpAnyH_take (i := 11) (v := .bool false) rfl (by kernel_rfl) (by kernel_rfl) (by kernel_rfl) (fun _ _ _ h => h) (Or.inl ⟨by rfl, ?_⟩) hHeld ?_
                · intro w' hSw; go_simp
                try simp only [ν1, ν2, ν3, ν4, ν5, ν6, ν7, ν8]
                refine wpAnyH_take (i := 12) (v := undef) rfl (by kernel_rfl) (by kernel_rfl) (by kernel_rfl) (fun _ _ _ h => h) (Or.inr ⟨by kernel_rfl, rfl⟩) hHeld ?_
                try simp only [ν1, ν2, ν3, ν4, ν5, ν6, ν7, ν8]
                refine wpAnyH_take (i := 13) (v := undef) rfl (by kernel_rfl) (by kernel_rfl) (by kernel_rfl) (fun _ _ _ h => h) (Or.inr ⟨by kernel_rfl, rfl⟩) hHeld ?_
                try simp only [ν1, ν2, ν3, ν4, ν5, ν6, ν7, ν8]
                refine wpAnyH_take (i := 14) (v := undef) rfl (by kernel_rfl) (by kernel_rfl) (by kernel_rfl) (fun _ _ _ h => h) (Or.inr ⟨by kernel_rfl, rfl⟩) hHeld ?_
                try simp only [ν1, ν2, ν3, ν4, ν5, ν6, ν7, ν8]
                refine wpAnyH_take (i := 15) (v := undef) rfl (by kernel_rfl) (by kernel_rfl) (by kernel_rfl) (fun _ _ _ h => h) (Or.inr ⟨by kernel_rfl, rfl⟩) hHeld ?_
                try simp only [ν1, ν2, ν3, ν4, ν5, ν6, ν7, ν8]
                refine wpAnyH_take (i := 16) (v := undef) rfl (by kernel_rfl) (by kernel_rfl) (by kernel_rfl) (fun _ _ _ h => h) (Or.inr ⟨by kernel_rfl, rfl⟩) hHeld ?_
                try simp only [ν1, ν2, ν3, ν4, ν5, ν6, ν7, ν8]
                refine wpAnyH_take (i := 17) (v := undef) rfl (by kernel_rfl) (by kernel_rfl) (by kernel_rfl) (fun _ _ _ h => h) (Or.inr ⟨by kernel_rfl, rfl⟩) hHeld ?_
                try simp only [ν1, ν2, ν3, ν4, ν5, ν6, ν7, ν8]
                refine wpAnyH_take (i := 18) (v := undef) rfl (by kernel_rfl) (by kernel_rfl) (by kernel_rfl) (fun _ _ _ h => h) (Or.inr ⟨by kernel_rfl, rfl⟩) hHeld ?_
                try simp only [ν1, ν2, ν3, ν4, ν5, ν6, ν7, ν8]
                refine wpAnyH_take (i := 19) (v := undef) rfl (by kernel_rfl) (by kernel_rfl) (by kernel_rfl) (fun _ _ _ h => h) (Or.inr ⟨by kernel_rfl, rfl⟩) hHeld ?_
                try simp only [ν1, ν2, ν3, ν4, ν5, ν6, ν7, ν8]
                refine wpAnyH_take (i := 20) (v := undef) rfl (by kernel_rfl) (by kernel_rfl) (by kernel_rfl) (fun _ _ _ h => h) (Or.inr ⟨by kernel_rfl, rfl⟩) hHeld ?_
                try simp only [ν1, ν2, ν3, ν4, ν5, ν6, ν7, ν8]
                refine wpAnyH_take (i := 21) (v := undef) rfl (by kernel_rfl) (by kernel_rfl) (by kernel_rfl) (fun _ _ _ h => h) (Or.inr ⟨by kernel_rfl, rfl⟩) hHeld ?_
                try simp only [ν1, ν2, ν3, ν4, ν5, ν6, ν7, ν8]
                refine wpAnyH_take (i := 22) (v := undef) rfl (by kernel_rfl) (by kernel_rfl) (by kernel_rfl) (fun _ _ _ h => h) (Or.inr ⟨by kernel_rfl, rfl⟩) hHeld ?_
                try simp only [ν1, ν2, ν3, ν4, ν5, ν6, ν7, ν8]
                refine wpAnyH_take (i := 23) (v := .bool false) rfl (by kernel_rfl) (by kernel_rfl) (by kernel_rfl) (fun _ _ _ h => h) (Or.inl ⟨by rfl, ?_⟩) hHeld ?_
                · intro w' hSw; go_simp
                try simp only [ν1, ν2, ν3, ν4, ν5, ν6, ν7, ν8]
                refine wpAnyH_take (i := 24) (v := .bool false) rfl (by kernel_rfl) (by kernel_rfl) (by kernel_rfl) (fun _ _ _ h => h) (Or.inl ⟨by rfl, ?_⟩) hHeld ?_
                · intro w' hSw; go_simp
                try simp only [ν1, ν2, ν3, ν4, ν5, ν6, ν7, ν8]
                refine wpAnyH_take (i := 25) (v := undef) rfl (by kernel_rfl) (by kernel_rfl) (by kernel_rfl) (fun _ _ _ h => h) (Or.inr ⟨by kernel_rfl, rfl⟩) hHeld ?_
                try simp only [ν1, ν2, ν3, ν4, ν5, ν6, ν7, ν8]
                refine wpAnyH_take (i := 26) (v := undef) rfl (by kernel_rfl) (by kernel_rfl) (by kernel_rfl) (fun _ _ _ h => h) (Or.inr ⟨by kernel_rfl, rfl⟩) hHeld ?_
                try simp only [ν1, ν2, ν3, ν4, ν5, ν6, ν7, ν8]
                refine wpAnyH_take (i := 27) (v := undef) rfl (by kernel_rfl) (by kernel_rfl) (by kernel_rfl) (fun _ _ _ h => h) (Or.inr ⟨by kernel_rfl, rfl⟩) hHeld ?_
                try simp only [ν1, ν2, ν3, ν4, ν5, ν6, ν7, ν8]
                refine wpAnyH_take (i := 28) (v := undef) rfl (by kernel_rfl) (by kernel_rfl) (by kernel_rfl) (fun _ _ _ h => h) (Or.inr ⟨by kernel_rfl, rfl⟩) hHeld ?_
                try simp only [ν1, ν2, ν3, ν4, ν5, ν6, ν7, ν8]
                refine wpAnyH_take (i := 29) (v := undef) rfl (by kernel_rfl) (by kernel_rfl) (by kernel_rfl) (fun _ _ _ h => h) (Or.inr ⟨by kernel_rfl, rfl⟩) hHeld ?_
                try simp only [ν1, ν2, ν3, ν4, ν5, ν6, ν7, ν8]
                refine wpAnyH_take (i := 30) (v := undef) rfl (by kernel_rfl) (by kernel_rfl) (by kernel_rfl) (fun _ _ _ h => h) (Or.inr ⟨by kernel_rfl, rfl⟩) hHeld ?_
                try simp only [ν1, ν2, ν3, ν4, ν5, ν6, ν7, ν8]
                refine wpAnyH_take (i := 31) (v := undef) rfl (by kernel_rfl) (by kernel_rfl) (by kernel_rfl) (fun _ _ _ h => h) (Or.inr ⟨by kernel_rfl, rfl⟩) hHeld ?_
                try simp only [ν1, ν2, ν3, ν4, ν5, ν6, ν7, ν8]
                refine wpAnyH_take (i := 32) (v := undef) rfl (by kernel_rfl) (by kernel_rfl) (by kernel_rfl) (fun _ _ _ h => h) (Or.inr ⟨by kernel_rfl, rfl⟩) hHeld ?_
                try simp only [ν1, ν2, ν3, ν4, ν5, ν6, ν7, ν8]
                refine wpAnyH_take (i := 33) (v := undef) rfl (by kernel_rfl) (by kernel_rfl) (by kernel_rfl) (fun _ _ _ h => h) (Or.inr ⟨by kernel_rfl, rfl⟩) hHeld ?_
                try simp only [ν1, ν2, ν3, ν4, ν5, ν6, ν7, ν8]
                refine wpAnyH_take (i := 34) (v := undef) rfl (by kernel_rfl) (by kernel_rfl) (by kernel_rfl) (fun _ _ _ h => h) (Or.inr ⟨by kernel_rfl, rfl⟩) hHeld ?_
                try simp only [ν1, ν2, ν3, ν4, ν5, ν6, ν7, ν8]
                refine wpAnyH_take (i := 35) (v := undef) rfl (by kernel_rfl) (by kernel_rfl) (by kernel_rfl) (fun _ _ _ h => h) (Or.inr ⟨by kernel_rfl, rfl⟩) hHeld ?_
                try simp only [ν1, ν2, ν3, ν4, ν5, ν6, ν7, ν8]
                refine wpAnyH_take (i := 36) (v := .bool false) rfl (by kernel_rfl) (by kernel_rfl) (by kernel_rfl) (fun _ _ _ h => h) (Or.inl ⟨by rfl, ?_⟩) hHeld ?_
                · intro w' hSw; go_simp
                try simp only [ν1, ν2, ν3, ν4, ν5, ν6, ν7, ν8]
                refine wpAnyH_done (by kernel_rfl) ?_ _
                have hB3 := hHeld
                clear hHeld
                go_wp2_with fail
                go_roundw
                case rel => exact ⟨k + 1, by omega, Lib.hid (Hnx.out Hal.out), by go_num, HB2.out.trans (hB3.mono HB2.out.size)⟩
                case measure => simp [intOf]; omega
            · obtain rfl : k = i := by omega
              have lii : ¬ ((k : Nat) : Int) < (k : Int) := by omega
              have Hgi : Hid (itemOk l k = true) := Lib.hid (Hgood.out Ht.out (fun j hj => Hno.out j hj hj))
              have HB3 := Lib.hid (HB1.out.trans (HB2.out.mono HB1.out.size))
              have Hci3 := Lib.hid (Hci1.out.agree (.below HB2.out (Nat.le_refl _)) (Nat.zero_le _) Hbl1.out)
              obtain ⟨y0, y1, y2, y3, y4, y5, y6, y7, y8, y9, y10⟩ := item_cells Hci3.out
              rw [esv] at y9
              clear y0 y1 y2 y3 y4 y5 y6 y7 y10
              cases hn : x.nested with
              | false =>
                rw [hn] at y8
                have Hx2 := Lib.hid (Hnext.out Hgi.out (by rw [It.fineI_eq, hn]; rfl))
                clear hn
                go_wp2_with fail
                go_roundw
                case rel => exact ⟨k + 1, by omega, Hx2, by go_num, HB3.out⟩
                case measure => simp [intOf]; omega
              | true =>
                rw [hn] at y8
                have Hfe : Hid (x.fineI = finePat x.sub) := Lib.hid (by rw [It.fineI_eq, hn]; rfl)
                have hs := Sl.below Hsub1.out (itE_loc d) HB2.out (by omega)
                rw [esv] at hs
                have Hs := Lib.hid hs
                clear hn hs
                go_wp2_with fail
                refine ih lo hi x.sub _ wk Hs.out (by omega) _ (fun w4 hB4 => ?_)
                have HB4 := Lib.hid (HB3.out.trans (hB4.mono HB3.out.size))
                clear y8 y9 hB4
                cases hf : finePat x.sub with
                | false =>
                  have hr := HR.out w4 HB4.out
                  rw [Hfin.out (by rw [Hfe.out, hf])] at hr
                  clear hf
                  go_wp2_with fail
                  first | exact hr | exact fin hr rfl
                | true =>
                  have Hx2 := Lib.hid (Hnext.out Hgi.out (by rw [Hfe.out, hf]))
                  clear hf
                  go_wp2_with fail
                  go_roundw
                  case rel => exact ⟨k + 1, by omega, Hx2, by go_num, HB4.out⟩
                  case measure => simp [intOf]; omega
      · obtain rfl : i = l.length := by omega
        have llt : ¬ ((l.length : Nat) : Int) < (l.length : Int) := by omega
        have hr := HR.out wo HB.out
        rw [fine_good (fun i hi => Hg.out i hi hi)] at hr
        clear hi2
        go_wp2_with fail
        first | exact hr | exact fin hr rfl
set_option maxRecDepth 100000 in
set_option maxHeartbeats 4000000 in
theorem refMayPat_any (d lo hi : Nat) (l : List It) (v : Value) (w : World) (hv : Its d lo hi w v l) (hhi : hi ≤ w.heap.size) (ha : allL l ≤ 1000) (hd : deepL l ≤ 99) (R : Ending → World → Prop)
    (hR : ∀ w', Below w.heap.size w w' → R (.returned (.bool (mayPat l))) w') : Calls Try.prog 16 #[v] w R := by
  have HR := Lib.hid hR
  have Hv := Lib.hid hv
  have hn : l.length + cntL l ≤ 1000 := Nat.le_trans (cntL_le l) ha
  have hdl := dptL_le l
  have HE : Hid (mayPat l = (decide (1 + dptL l ≤ 20) && finePat l)) := Lib.hid (by unfold mayPat; rw [decide_eq_true hn, Bool.true_and])
  clear hR hv
  go_enter Try.func16, Try.ntmps16
  go_wp2_with fail
  refine count_any d lo hi l v w 1 (by decide) Hv.out hhi ha (by omega) _ (fun w1 hB1 => ?_)
  have HB1 := Lib.hid hB1
  have hz1 := hB1.size
  have Hv1 := Lib.hid (Sl.below Hv.out (itE_loc d) hB1 hhi)
  obtain ⟨n, hnn⟩ : ∃ n, n = l.length + cntL l := ⟨_, rfl⟩
  obtain ⟨m, hmm⟩ : ∃ m, m = dptL l := ⟨_, rfl⟩
  rw [← hnn] at hn ⊢
  rw [← hmm] at hdl HE ⊢
  clear hnn hmm hB1
  have hn1 : (n : Int) ≤ 1000 := by omega
  by_cases hm : 1 + m ≤ 20
  · have hm1 : 1 + (m : Int) ≤ 20 := by omega
    go_wp2_with fail
    refine refFine_any d lo hi l v w1 Hv1.out (by omega) _ (fun w2 hB2 => ?_)
    have hr := HR.out w2 (HB1.out.trans (hB2.mono HB1.out.size))
    rw [HE.out, decide_eq_true hm, Bool.true_and] at hr
    clear hB2
    go_wp2_with fail
    first | exact hr | exact fin hr rfl
  · have hm1 : ¬ 1 + (m : Int) ≤ 20 := by omega
    have hr := HR.out w1 HB1.out
    rw [HE.out, decide_eq_false hm, Bool.false_and] at hr
    go_wp2_with fail
    first | exact hr | exact fin hr rfl
end Go.Proofs.Yticbhfmpnmolcaa
end

/- Items seen flat; when two are alike; which of a list's is the first. (Printed by puld.py.) -/
section
set_option linter.unusedVariables false
set_option linter.unusedSimpArgs false
namespace Go.Proofs.Yticbhfmpnmolcaa
open Go.RowKit
set_option linter.unusedVariables false
set_option linter.unusedSimpArgs false
/-- An item as its cells show it, whatever its list's header is. -/
def itF : El It := fun _ _ _ cs x => ∃ p c, cs = x.encH (.slice p x.sub.length c)
theorem itF_loc : Loc itF := ⟨fun h _ => h, fun h _ _ => h⟩
abbrev ItsF := Sl itF 11
theorem Its.flat {d lo hi : Nat} {w : World} {v : Value} {l : List It} (h : Its d lo hi w v l) : ItsF lo hi w v l := by
  obtain ⟨ao, cap, h1, h2, h3, h4, h5⟩ := h
  refine ⟨ao, cap, h1, h2, h3, h4, fun hn => ?_⟩
  obtain ⟨b, off, e, k1, k2, k3⟩ := h5 hn
  refine ⟨b, off, e, k1, k2, fun k hk => ?_⟩
  obtain ⟨cs, c1, c2, c3⟩ := k3 k hk
  cases d with
  | zero => exact c3.elim
  | succ d =>
    obtain ⟨-, sv, rfl, hs⟩ := c3
    obtain ⟨p, c, e, -, -, -, -⟩ := hs.form
    exact ⟨_, c1, c2, p, c, by rw [e]⟩
set_option maxRecDepth 100000 in
set_option maxHeartbeats 8000000 in
theorem alike_any (x y : It) (p1 p2 : Option Addr) (c1 c2 : Nat) (w : World) (R : Ending → World → Prop) (hR : ∀ w', Below w.heap.size w w' → R (.returned (.bool (alikeB x y))) w') :
    Calls Try.prog 38 #[.agg #[.bool x.wild, .string ⟨x.attr.toArray⟩, .bool x.back, .int .i64 x.limit, .bool x.has, .int .i64 x.dflt.kind, .int .i64 x.dflt.n, .string ⟨x.dflt.s.toArray⟩, .bool x.nested, .slice p1 x.sub.length c1, .int .i64 x.rc], .agg #[.bool y.wild, .string ⟨y.attr.toArray⟩, .bool y.back, .int .i64 y.limit, .bool y.has, .int .i64 y.dflt.kind, .int .i64 y.dflt.n, .string ⟨y.dflt.s.toArray⟩, .bool y.nested, .slice p2 y.sub.length c2, .int .i64 y.rc]] w R := by
  have HR := Lib.hid hR
  have hB1 := alloc_below w (.cells #[.bool x.wild, .string ⟨x.attr.toArray⟩, .bool x.back, .int .i64 x.limit, .bool x.has, .int .i64 x.dflt.kind, .int .i64 x.dflt.n, .string ⟨x.dflt.s.toArray⟩, .bool x.nested, .slice p1 x.sub.length c1, .int .i64 x.rc] 66)
  have hb1 := Blk.new w [.bool x.wild, .string ⟨x.attr.toArray⟩, .bool x.back, .int .i64 x.limit, .bool x.has, .int .i64 x.dflt.kind, .int .i64 x.dflt.n, .string ⟨x.dflt.s.toArray⟩, .bool x.nested, .slice p1 x.sub.length c1, .int .i64 x.rc] 66 rfl
  have hB2 := alloc_below (w.alloc (.cells #[.bool x.wild, .string ⟨x.attr.toArray⟩, .bool x.back, .int .i64 x.limit, .bool x.has, .int .i64 x.dflt.kind, .int .i64 x.dflt.n, .string ⟨x.dflt.s.toArray⟩, .bool x.nested, .slice p1 x.sub.length c1, .int .i64 x.rc] 66)) (.cells #[.bool y.wild, .string ⟨y.attr.toArray⟩, .bool y.back, .int .i64 y.limit, .bool y.has, .int .i64 y.dflt.kind, .int .i64 y.dflt.n, .string ⟨y.dflt.s.toArray⟩, .bool y.nested, .slice p2 y.sub.length c2, .int .i64 y.rc] 66)
  have hb2 := Blk.new (w.alloc (.cells #[.bool x.wild, .string ⟨x.attr.toArray⟩, .bool x.back, .int .i64 x.limit, .bool x.has, .int .i64 x.dflt.kind, .int .i64 x.dflt.n, .string ⟨x.dflt.s.toArray⟩, .bool x.nested, .slice p1 x.sub.length c1, .int .i64 x.rc] 66)) [.bool y.wild, .string ⟨y.attr.toArray⟩, .bool y.back, .int .i64 y.limit, .bool y.has, .int .i64 y.dflt.kind, .int .i64 y.dflt.n, .string ⟨y.dflt.s.toArray⟩, .bool y.nested, .slice p2 y.sub.length c2, .int .i64 y.rc] 66 rfl
  have hs1 : (w.alloc (.cells #[.bool x.wild, .string ⟨x.attr.toArray⟩, .bool x.back, .int .i64 x.limit, .bool x.has, .int .i64 x.dflt.kind, .int .i64 x.dflt.n, .string ⟨x.dflt.s.toArray⟩, .bool x.nested, .slice p1 x.sub.length c1, .int .i64 x.rc] 66)).heap.size = w.heap.size + 1 := by simp
  rw [hs1] at hb2
  have hb1 := hb1.below hB2 hb1.lt
  have HB := Lib.hid (hB1.trans (hB2.mono hB1.size))
  clear hR hB1 hB2 hs1
  go_enter Try.func38, Try.ntmps38
  go_upto_region 1 with fail
  generalize (w.alloc (.cells #[.bool x.wild, .string ⟨x.attr.toArray⟩, .bool x.back, .int .i64 x.limit, .bool x.has, .int .i64 x.dflt.kind, .int .i64 x.dflt.n, .string ⟨x.dflt.s.toArray⟩, .bool x.nested, .slice p1 x.sub.length c1, .int .i64 x.rc] 66)).alloc (.cells #[.bool y.wild, .string ⟨y.attr.toArray⟩, .bool y.back, .int .i64 y.limit, .bool y.has, .int .i64 y.dflt.kind, .int .i64 y.dflt.n, .string ⟨y.dflt.s.toArray⟩, .bool y.nested, .slice p2 y.sub.length c2, .int .i64 y.rc] 66) = w2 at *
  obtain ⟨y0, y1, y2, y3, y4, y5, y6, y7, y8, y9, y10⟩ := item_cells hb1.cells
  obtain ⟨z0, z1, z2, z3, z4, z5, z6, z7, z8, z9, z10⟩ := item_cells hb2.cells
  simp only [Nat.zero_add] at y1 y2 z1 z2
  have hr := HR.out w2 HB.out
  clear hb1 hb2 y3 y4 y5 y6 y7 y8 y9 y10 z3 z4 z5 z6 z7 z8 z9 z10
  by_cases h0 : x.wild = y.wild
  · by_cases h1 : x.attr = y.attr
    · by_cases h2 : x.back = y.back
      · rw [show alikeB x y = true by unfold alikeB; simp [h0, h1, h2]] at hr
        have q0 : (x.wild == y.wild) = true := by simpa using h0
        have q1 : (x.attr == y.attr) = true := by simpa using h1
        have q2 : (x.back == y.back) = true := by simpa using h2
        go_wp2_with fail
        first | exact hr | exact fin hr rfl
      · rw [show alikeB x y = false by unfold alikeB; simp [h0, h1, h2]] at hr
        have q0 : (x.wild == y.wild) = true := by simpa using h0
        have q1 : (x.attr == y.attr) = true := by simpa using h1
        have q2 : (x.back == y.back) = false := by simpa using h2
        go_wp2_with fail
        first | exact hr | exact fin hr rfl
    · rw [show alikeB x y = false by unfold alikeB; simp [h0, h1]] at hr
      have q0 : (x.wild == y.wild) = true := by simpa using h0
      have q1 : (x.attr == y.attr) = false := by simpa using h1
      go_wp2_with fail
      first | exact hr | exact fin hr rfl
  · rw [show alikeB x y = false by unfold alikeB; simp [h0]] at hr
    have q0 : (x.wild == y.wild) = false := by simpa using h0
    go_wp2_with fail
    first | exact hr | exact fin hr rfl
set_option maxRecDepth 100000 in
set_option maxHeartbeats 8000000 in
theorem may1_any (x y : It) (p1 p2 : Option Addr) (c1 c2 b : Nat) (w : World) (hb : Blk w b [.bool x.wild, .string ⟨x.attr.toArray⟩, .bool x.back, .int .i64 x.limit, .bool x.has, .int .i64 x.dflt.kind, .int .i64 x.dflt.n, .string ⟨x.dflt.s.toArray⟩, .bool x.nested, .slice p1 x.sub.length c1, .int .i64 x.rc] 66) (R : Ending → World → Prop) (hR : ∀ w', Below w.heap.size w w' → R (.returned (.bool (alikeB x y))) w') :
    Calls Try.prog 37 #[.agg #[.bool y.wild, .string ⟨y.attr.toArray⟩, .bool y.back, .int .i64 y.limit, .bool y.has, .int .i64 y.dflt.kind, .int .i64 y.dflt.n, .string ⟨y.dflt.s.toArray⟩, .bool y.nested, .slice p2 y.sub.length c2, .int .i64 y.rc], .pointer (some ⟨b, 0, none⟩)] w R := by
  have HR := Lib.hid hR
  have hB2 := alloc_below w (.cells #[.bool y.wild, .string ⟨y.attr.toArray⟩, .bool y.back, .int .i64 y.limit, .bool y.has, .int .i64 y.dflt.kind, .int .i64 y.dflt.n, .string ⟨y.dflt.s.toArray⟩, .bool y.nested, .slice p2 y.sub.length c2, .int .i64 y.rc] 66)
  have hb2 := Blk.new w [.bool y.wild, .string ⟨y.attr.toArray⟩, .bool y.back, .int .i64 y.limit, .bool y.has, .int .i64 y.dflt.kind, .int .i64 y.dflt.n, .string ⟨y.dflt.s.toArray⟩, .bool y.nested, .slice p2 y.sub.length c2, .int .i64 y.rc] 66 rfl
  have hb1 := hb.below hB2 hb.lt
  have HB := Lib.hid hB2
  clear hR hB2 hb
  go_enter Try.func37, Try.ntmps37
  go_upto_region 1 with fail
  generalize w.alloc (.cells #[.bool y.wild, .string ⟨y.attr.toArray⟩, .bool y.back, .int .i64 y.limit, .bool y.has, .int .i64 y.dflt.kind, .int .i64 y.dflt.n, .string ⟨y.dflt.s.toArray⟩, .bool y.nested, .slice p2 y.sub.length c2, .int .i64 y.rc] 66) = w2 at *
  obtain ⟨y0, y1, y2, y3, y4, y5, y6, y7, y8, y9, y10⟩ := item_cells hb1.cells
  obtain ⟨z0, z1, z2, z3, z4, z5, z6, z7, z8, z9, z10⟩ := item_cells hb2.cells
  simp only [Nat.zero_add] at y1 y2 y3 y4 y5 y6 y7 y8 y9 y10 z1 z2 z3 z4 z5 z6 z7 z8 z9 z10
  clear hb1 hb2
  go_wp2_with fail
  refine alike_any x y p1 p2 c1 c2 w2 _ (fun w3 hB3 => ?_)
  have hr := HR.out w3 (HB.out.trans (hB3.mono HB.out.size))
  clear y0 y1 y2 y3 y4 y5 y6 y7 y8 y9 y10 z0 z1 z2 z3 z4 z5 z6 z7 z8 z9 z10 hB3
  go_wp2_with fail
  first | exact hr | exact fin hr rfl
set_option maxRecDepth 100000 in
set_option maxHeartbeats 4000000 in
/-- slices.IndexFunc over items, whatever is asked of each. -/
theorem IndexFunc_it (lo hi : Nat) (v : Value) (xs : List It) (f : FuncId) (capt : Array Value) (p : It → Bool) (w : World) (hv : ItsF lo hi w v xs) (hhi : hi ≤ w.heap.size)
    (he : ∀ args w, (callFunc f args).run Try.prog w = .ok (.enter f args) w)
    (hp : ∀ a sp sc w' R, Below w.heap.size w w' → (∀ w'', Below w'.heap.size w' w'' → R (.returned (.bool (p a))) w'') →
      Calls Try.prog f (#[.agg #[.bool a.wild, .string ⟨a.attr.toArray⟩, .bool a.back, .int .i64 a.limit, .bool a.has, .int .i64 a.dflt.kind, .int .i64 a.dflt.n, .string ⟨a.dflt.s.toArray⟩, .bool a.nested, .slice sp a.sub.length sc, .int .i64 a.rc]] ++ capt) w' R)
    (R : Ending → World → Prop) (hR : ∀ o w', o = xs.findIdx? p → Below w.heap.size w w' → R (.returned (.int .i64 (oidx o))) w') :
    Calls Try.prog 65 #[v, .func (.func f) #[] capt] w R := by
  obtain ⟨ao, cap, rfl, hl1, hl2, _, hc⟩ := hv.form
  go_enter Try.func65, Try.ntmps65
  go_wp2
  go_loopw [5, 8] (fun t5 t8 wr => ∃ k : Nat, k ≤ xs.length ∧ t8 = .int .i64 k ∧ (∀ i (h : i < k) (h' : i < xs.length), p xs[i] = false) ∧ Below w.heap.size w wr) (fun _ t8 _ => xs.length - (intOf t8).toNat)
  case atStart => exact ⟨0, Nat.zero_le _, rfl, by intro i h; omega, Below.refl _ _⟩
  case round =>
    obtain ⟨k, hk, rfl, hno, hB⟩ := hrel
    have Hno := Lib.hid hno
    have Hp := Lib.hid hp
    have Hc := Lib.hid hc
    clear hno hp hc
    by_cases hlt : k < xs.length
    · obtain ⟨b, off, rfl, hb1, hb2, hcc⟩ := Hc.out k hlt
      obtain ⟨cs, _, hcs, sp, sc, rfl⟩ := hcc k hlt
      obtain ⟨h0, h1, h2, h3, h4, h5, h6, h7, h8, h9, h10⟩ := item_cells (hcs.agree (.below hB hhi) hb1 hb2)
      clear hcc hcs
      generalize hx : xs[k] = x at *
      have Hx := Lib.hid hx
      clear hx
      go_wp2_with fail
      refine Hp.out x sp sc _ _ hB ?_
      intro w1 hB1
      have hB2 := hB.trans (hB1.mono hB.size)
      cases hpx : p x
      · go_wp2
        go_roundw
        case rel =>
          refine ⟨k + 1, by omega, by go_num, ?_, hB2⟩
          intro i h h'
          by_cases e : i = k
          · subst e; rw [Hx.out]; exact hpx
          · exact Hno.out i (by omega) h'
        case measure => simp [intOf]; omega
      · go_wp2
        exact hR (some k) _ (by
          symm
          rw [List.findIdx?_eq_some_iff_getElem]
          exact ⟨hlt, by rw [Hx.out]; exact hpx, fun j hj => by simpa using Hno.out j hj (by omega)⟩) hB2
    · go_wp2
      exact hR none _ (by
        symm
        rw [List.findIdx?_eq_none_iff]
        intro x hx
        obtain ⟨i, hi, rfl⟩ := List.getElem_of_mem hx
        exact Hno.out i (by omega) hi) hB

set_option maxRecDepth 100000 in
set_option maxHeartbeats 4000000 in
/-- slices.ContainsFunc over items. -/
theorem ContainsFunc_it (lo hi : Nat) (v : Value) (xs : List It) (f : FuncId) (capt : Array Value) (p : It → Bool) (w : World) (hv : ItsF lo hi w v xs) (hhi : hi ≤ w.heap.size)
    (he : ∀ args w, (callFunc f args).run Try.prog w = .ok (.enter f args) w)
    (hp : ∀ a sp sc w' R, Below w.heap.size w w' → (∀ w'', Below w'.heap.size w' w'' → R (.returned (.bool (p a))) w'') →
      Calls Try.prog f (#[.agg #[.bool a.wild, .string ⟨a.attr.toArray⟩, .bool a.back, .int .i64 a.limit, .bool a.has, .int .i64 a.dflt.kind, .int .i64 a.dflt.n, .string ⟨a.dflt.s.toArray⟩, .bool a.nested, .slice sp a.sub.length sc, .int .i64 a.rc]] ++ capt) w' R)
    (R : Ending → World → Prop) (hR : ∀ b w', b = xs.any p → Below w.heap.size w w' → R (.returned (.bool b)) w') :
    Calls Try.prog 36 #[v, .func (.func f) #[] capt] w R := by
  have HI := Lib.hid (IndexFunc_it lo hi v xs f capt p w hv hhi he hp)
  obtain ⟨ao, cap, rfl, -⟩ := hv.form
  clear hp
  go_enter Try.func36, Try.ntmps36
  go_wp2_with fail
  refine HI.out _ ?_
  intro o w1 ho hB
  have Ho := Lib.hid ho
  clear ho
  cases o with
  | none =>
    simp only [oidx]
    go_wp2
    exact hR false _ (by
      have := List.findIdx?_eq_none_iff.1 Ho.out.symm
      symm
      rw [List.any_eq_false]
      simpa using this) hB
  | some i =>
    simp only [oidx]
    go_wp2
    exact hR true _ (by
      obtain ⟨h, h1, -⟩ := List.findIdx?_eq_some_iff_getElem.1 Ho.out.symm
      symm
      rw [List.any_eq_true]
      exact ⟨xs[i], List.getElem_mem h, h1⟩) hB
end Go.Proofs.Yticbhfmpnmolcaa
end
