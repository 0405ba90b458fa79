/- Texts that the proofs of FoldGroups stand on, part 2. -/
import Derived.Deep.Slices
import Derived.Test.YtpncblagjkbemaaKFoldGroups1
/- May a relation be? -/
section
set_option linter.unusedVariables false
set_option linter.unusedSimpArgs false
namespace Go.Proofs.Ytpncblagjkbemaa
open Go.RowKit
set_option linter.unusedVariables false
set_option linter.unusedSimpArgs false

/-- A row of a relation may stand where it stands. -/
def mayAt (cols : List S) (l : List (List V)) (i : Nat) : Bool := (l.getD i []).length == cols.length && (i == 0 || decide (cmpR (l.getD (i - 1) []) (l.getD i []) < 0))
def mayRel (cols : List S) (l : List (List V)) : Bool := onceB cols && decide (l.length ≤ 100000) && (List.range l.length).all (mayAt cols l)
theorem mayRel_yes {cols : List S} {l : List (List V)} (h1 : onceB cols = true) (h2 : l.length ≤ 100000) (h3 : ∀ i, i < l.length → mayAt cols l i = true) : mayRel cols l = true := by
  unfold mayRel
  rw [h1, decide_eq_true h2, Bool.true_and, Bool.true_and, List.all_eq_true]
  exact fun i hi => h3 i (List.mem_range.1 hi)
theorem mayRel_no {cols : List S} {l : List (List V)} {i : Nat} (hi : i < l.length) (h : mayAt cols l i = false) : mayRel cols l = false := by
  unfold mayRel
  rw [show (List.range l.length).all (mayAt cols l) = false by rw [List.all_eq_false]; exact ⟨i, List.mem_range.2 hi, by simp [h]⟩]
  simp
set_option maxRecDepth 100000 in
set_option maxHeartbeats 4000000 in
theorem May_any (lo hi lc hc : Nat) (cols : List S) (ac : Option Addr) (cc : Nat) (l : List (List V)) (lv : Value) (w : World) (hcols : Strs lc hc w (.slice ac cols.length cc) cols) (hhc : hc ≤ w.heap.size) (hv : Rws lo hi w lv l) (hhi : hi ≤ w.heap.size) (R : Ending → World → Prop)
    (hR : ∀ w', Below w.heap.size w w' → R (.returned (.bool (mayRel cols l))) w') : Calls Try.prog 38 #[.agg #[.slice ac cols.length cc, lv]] w R := by
  have HR := Lib.hid hR
  have Hv := Lib.hid hv
  have Hc := Lib.hid hcols
  obtain ⟨av, cv2, rfl, -, -, -, -⟩ := hv.form
  have hll := hv.len
  clear hR hv hcols
  go_enter Try.func38, Try.ntmps38
  go_upto_region 1 with fail
  have hBa := (Below.refl w.heap.size w).alloc (Nat.le_refl _) (.cells #[.slice ac cols.length cc, .slice av l.length cv2] 34)
  have hba := Blk.new w [.slice ac cols.length cc, .slice av l.length cv2] 34 rfl
  generalize w.alloc (.cells #[.slice ac cols.length cc, .slice av l.length cv2] 34) = w1 at *
  have HBa := Lib.hid hBa
  have Hba := Lib.hid hba
  have hz1 := hBa.size
  have hbl := hba.lt
  obtain ⟨d0, d1⟩ := hba.cells.c2
  simp only [Nat.zero_add] at d1
  clear hBa hba
  go_wp2_with fail
  refine once_any lc hc cols _ _ (Sl.below Hc.out Strs.loc HBa.out hhc) _ ?_
  cases ho : onceB cols
  · have hr := HR.out w1 HBa.out
    rw [show mayRel cols l = false by unfold mayRel; rw [ho]; rfl] at hr
    clear ho
    go_wp2_with fail
    first | exact hr | exact fin hr rfl
  have Ho := Lib.hid ho
  clear ho
  by_cases hgt : 100000 < l.length
  · have hr := HR.out w1 HBa.out
    rw [show mayRel cols l = false by unfold mayRel; rw [decide_eq_false (by omega)]; simp] at hr
    have c1 : (100000 : Int) < (l.length : Int) := by omega
    go_wp2_with fail
    first | exact hr | exact fin hr rfl
  have c1 : ¬ (100000 : Int) < (l.length : Int) := by omega
  go_wp2_with fail
  go_loopw [18] (fun t18 wr => ∃ k : Nat, k ≤ l.length ∧ t18 = .int .i64 k ∧ (∀ i, i < k → mayAt cols l i = true) ∧ Below w1.heap.size w1 wr) (fun t18 _ => l.length - (intOf t18).toNat)
  case atStart => exact ⟨0, Nat.zero_le _, rfl, fun i hi => absurd hi (Nat.not_lt_zero _), Below.refl _ _⟩
  case round =>
    obtain ⟨k, hk, rfl, hok, hB⟩ := hrel
    obtain ⟨wo, ewo⟩ : ∃ x, x = wr := ⟨_, rfl⟩
    subst ewo
    clear d0 d1
    have Hok := Lib.hid hok
    have HB := Lib.hid hB
    have HBw := Lib.hid (HBa.out.trans (hB.mono hz1))
    have hz := HBw.out.size
    have kk0 : (0 : Int) ≤ (k : Int) := by omega
    obtain ⟨d0, d1⟩ := (Hba.out.below hB hbl).cells.c2
    simp only [Nat.zero_add] at d1
    clear hB hok
    by_cases hlt : k < l.length
    · have kkl : (k : Int) < (l.length : Int) := by omega
      have Hvl := Lib.hid (Sl.below Hv.out rowE_loc HBw.out hhi)
      obtain ⟨b4, o4, rfl, hb4, hrow4⟩ := Rws.at Hvl.out (by omega) (by omega)
      obtain ⟨p2, c2, g2, r2⟩ := hrow4 k hlt
      have G2 := g2 wo (Below.refl _ _)
      have R2 := Lib.hid r2
      have hxl := r2.len
      by_cases hne : l[k].length = cols.length
      · have He : Hid (l[k].length = cols.length) := Lib.hid hne
        have c3 : ((l[k].length : Int) != (cols.length : Int)) = false := by simp; omega
        by_cases hk0 : k = 0
        · have Hk0 : Hid (k = 0) := Lib.hid hk0
          have hnx : Hid (∀ i, i < k + 1 → mayAt cols l i = true) := Lib.hid (fun i hi => by
            obtain rfl : i = 0 := by omega
            unfold mayAt
            rw [getDS l _ 0 (by omega)]
            have := He.out
            subst hk0
            simp [this])
          have c4 : ¬ (0 : Int) < (k : Int) := by omega
          clear hrow4 g2 r2 hne hk0
          generalize l[k] = xb at *
          go_wp2_with fail
          go_roundw
          case rel => exact ⟨k + 1, by omega, by go_num, hnx.out, HB.out⟩
          case measure => simp [intOf]; omega
        · obtain ⟨j, ej⟩ : ∃ j, j = k - 1 := ⟨_, rfl⟩
          have hjl : j < l.length := by omega
          have hkj : (k : Int) - 1 = (j : Int) := by omega
          have jj0 : (0 : Int) ≤ (j : Int) := by omega
          have jjl : (j : Int) < (l.length : Int) := by omega
          have c4 : (0 : Int) < (k : Int) := by omega
          obtain ⟨p1, c1', g1, r1⟩ := hrow4 j hjl
          have G1 := g1 wo (Below.refl _ _)
          have R1 := Lib.hid r1
          have Hat : Hid (mayAt cols l k = decide (cmpR l[j] l[k] < 0)) := Lib.hid (by
            unfold mayAt
            rw [getDS l _ k hlt, getDS l _ (k - 1) (by omega), He.out]
            subst ej
            simp [hk0])
          have Hno : Hid (mayAt cols l k = false → mayRel cols l = false) := Lib.hid (mayRel_no hlt)
          have Hnx : Hid (mayAt cols l k = true → ∀ i, i < k + 1 → mayAt cols l i = true) := Lib.hid (fun h i hi => by
            by_cases e : i = k
            · rw [e]; exact h
            · exact Hok.out i (by omega))
          clear hrow4 g2 r2 g1 r1 hne ej hk0
          generalize l[k] = xb at *
          generalize l[j] = xa at *
          go_wp2_with fail
          refine rowsCompareB_any lo hi lo hi xa xb _ _ wo R1.out R2.out (by omega) (by omega) _ (fun w5 hB5 => ?_)
          have HB5 := Lib.hid (HB.out.trans (hB5.mono (by have := HB.out.size; omega)))
          have HB5w := Lib.hid (HBw.out.trans (hB5.mono hz))
          clear hB5
          by_cases hc0 : cmpR xa xb < 0
          · have hnx := Lib.hid (Hnx.out (by rw [Hat.out]; exact decide_eq_true hc0))
            have c5 : ¬ (0 : Int) ≤ cmpR xa xb := by omega
            clear hc0 Hno Hnx
            generalize cmpR xa xb = cv at *
            go_wp2_with fail
            go_roundw
            case rel => exact ⟨k + 1, by omega, by go_num, hnx.out, HB5.out⟩
            case measure => simp [intOf]; omega
          · have hr := HR.out w5 HB5w.out
            rw [Hno.out (by rw [Hat.out]; exact decide_eq_false hc0)] at hr
            have c5 : (0 : Int) ≤ cmpR xa xb := by omega
            clear hc0 Hno Hnx
            generalize cmpR xa xb = cv at *
            go_wp2_with fail
            first | exact hr | exact fin hr rfl
      · have hr := HR.out wo HBw.out
        rw [mayRel_no hlt (by unfold mayAt; rw [getDS l _ k hlt]; simp [hne])] at hr
        have c3 : ((l[k].length : Int) != (cols.length : Int)) = true := by simp; omega
        clear hrow4 g2 r2 hne
        generalize l[k] = xb at *
        go_wp2_with fail
        first | exact hr | exact fin hr rfl
    · have llt : ¬ (k : Int) < (l.length : Int) := by omega
      have hr := HR.out wo HBw.out
      rw [mayRel_yes Ho.out (by omega) (fun i hi => Hok.out i (by omega))] at hr
      go_wp2_with fail
      first | exact hr | exact fin hr rfl
end Go.Proofs.Ytpncblagjkbemaa
end

/- slices.CompactFunc of rows of a call's own. (Printed by rowe.py.) -/
section
set_option linter.unusedVariables false
set_option linter.unusedSimpArgs false
namespace Go.Proofs.Ytpncblagjkbemaa
open Go.RowKit
set_option linter.unusedVariables false
set_option linter.unusedSimpArgs false

set_option maxRecDepth 100000 in
set_option maxHeartbeats 2000000 in
theorem eqRows_any (lo hi lo2 hi2 : Nat) (x y : List V) (vx vy : Value) (w : World) (hx : Row1 lo hi w vx x) (hy : Row1 lo2 hi2 w vy y) (hhi : hi ≤ w.heap.size) (hhi2 : hi2 ≤ w.heap.size) (R : Ending → World → Prop)
    (hR : ∀ w', Gw w w' → R (.returned (.bool (cmpR x y == 0))) w') : Calls Try.prog 114 #[vx, vy] w R := by
  have HR := Lib.hid hR
  have Hx := Lib.hid hx
  have Hy := Lib.hid hy
  obtain ⟨ax, cx, rfl, -, -, -, -⟩ := hx.form
  obtain ⟨ay, cy, rfl, -, -, -, -⟩ := hy.form
  clear hR hx hy
  go_enter Try.func114, Try.ntmps114
  go_wp2_with fail
  refine rowsCompare_any lo hi lo2 hi2 x y _ _ w Hx.out Hy.out hhi hhi2 _ (fun w1 hg => ?_)
  have hr := HR.out w1 hg
  generalize cmpR x y = c at *
  clear hg
  go_wp2_with fail
  first | exact hr | exact fin hr rfl | exact fin hr (by simp)
theorem Own.setH {lo g n c j : Nat} {w : World} {hs : List Value} (h : OwnH lo w (.slice (some ⟨g, 0, none⟩) n c) hs) (u : Value) : OwnH lo (w.setCell ⟨g, j, none⟩ u) (.slice (some ⟨g, 0, none⟩) n c) (if j < hs.length then hs.set j u else hs) := by
  obtain ⟨h1, h2⟩ := h
  rcases h2 with ⟨ee, hn⟩ | ⟨g', cap, cur, ee, hb, hg, hnc, hcm, hcs, htake⟩
  · cases ee
  · injection ee with e1 e2 e3
    injection e1 with e1
    injection e1 with e1
    subst e1 e2 e3
    have hB : Blk w g cur.toList 42 := by unfold Blk; simpa using hg
    have hB2 := hB.set j u
    rw [flat_vE] at htake
    by_cases hj : j < hs.length
    · rw [if_pos hj]
      refine ⟨by simp [flat_vE], .inr ⟨g, c, (cur.toList.set j u).toArray, by simp, hb, hB2, by simpa using hnc, hcm, by simpa using hcs, ?_⟩⟩
      rw [List.length_set, List.toList_toArray, List.take_set, htake, flat_vE]
    · rw [if_neg hj]
      refine ⟨h1, .inr ⟨g, c, (cur.toList.set j u).toArray, rfl, hb, hB2, hnc, hcm, by simpa using hcs, ?_⟩⟩
      rw [List.toList_toArray, List.take_set_of_le (by omega), htake, flat_vE]
theorem Own.setAt {lo g n c j : Nat} {w : World} {hs : List Value} (h : OwnH lo w (.slice (some ⟨g, 0, none⟩) n c) hs) (hj : j < hs.length) (u : Value) : OwnH lo (w.setCell ⟨g, j, none⟩ u) (.slice (some ⟨g, 0, none⟩) n c) (hs.set j u) := by
  have := Own.setH h u (j := j)
  rwa [if_pos hj] at this
theorem Own.setOut {lo g n c : Nat} {hs : List Value} (us : List Value) : ∀ (w : World) (j : Nat), OwnH lo w (.slice (some ⟨g, 0, none⟩) n c) hs → hs.length ≤ j → OwnH lo (w.setCells g j us) (.slice (some ⟨g, 0, none⟩) n c) hs := by
  induction us with
  | nil => intro w j h _; exact h
  | cons u r ih =>
    intro w j h hj
    have := Own.setH h u (j := j)
    rw [if_neg (by omega)] at this
    exact ih _ (j + 1) this (by omega)
theorem Own.cut {lo g n c k : Nat} {w : World} {hs : List Value} (h : OwnH lo w (.slice (some ⟨g, 0, none⟩) n c) hs) (hk : k ≤ hs.length) : OwnH lo w (.slice (some ⟨g, 0, none⟩) k c) (hs.take k) := by
  obtain ⟨h1, h2⟩ := h
  have hl : (hs.take k).length = k := by rw [List.length_take]; omega
  rcases h2 with ⟨ee, hn⟩ | ⟨g', cap, cur, ee, hb, hg, hnc, hcm, hcs, htake⟩
  · cases ee
  · injection ee with e1 e2 e3
    injection e1 with e1
    injection e1 with e1
    subst e1 e2 e3
    rw [flat_vE, Nat.mul_one] at htake
    refine ⟨by rw [flat_vE, Nat.mul_one], .inr ⟨g, c, cur, by rw [hl], hb, hg, by omega, hcm, hcs, ?_⟩⟩
    rw [hl, flat_vE, Nat.mul_one, ← htake, List.take_take, Nat.min_eq_left hk]
theorem only_setCells (g : Nat) (us : List Value) : ∀ (w : World) (j : Nat), Only (fun z => z = g) w (w.setCells g j us) := by
  induction us with
  | nil => intro w j; exact Only.refl _ _
  | cons u r ih => intro w j; exact (Only.setCell (A := fun z => z = g) w (p := ⟨g, j, none⟩) rfl u).trans (ih _ _)
theorem compactL_snoc {α : Type} {c : α → α → Int} (h : Cmp c) : ∀ (l : List α) (x y : α), compactL c (l ++ [x] ++ [y]) = if c y x = 0 then compactL c (l ++ [x]) else compactL c (l ++ [x]) ++ [y]
  | [], x, y => by
    simp only [List.nil_append, List.cons_append, compactL]
    split
    · rename_i h0; rw [(h.zero _ _).1 h0]
    · rfl
  | a :: l, x, y => by
    have ih := compactL_snoc h l x y
    cases l with
    | nil =>
      simp only [List.cons_append, List.nil_append, compactL]
      by_cases h1 : c x a = 0 <;> by_cases h2 : c y x = 0
      · rw [if_pos h1, if_pos h2, if_pos h1, if_pos h2, (h.zero _ _).1 h2]
      · rw [if_pos h1, if_neg h2, if_pos h1, if_neg h2]; rfl
      · rw [if_neg h1, if_pos h2, if_neg h1, if_pos h2, (h.zero _ _).1 h2]
      · rw [if_neg h1, if_neg h2, if_neg h1, if_neg h2]; rfl
    | cons b l =>
      simp only [List.cons_append] at ih ⊢
      rw [compactL, ih, compactL]
      by_cases h1 : c b a = 0 <;> by_cases h2 : c y x = 0
      · rw [if_pos h1, if_pos h2, if_pos h1, if_pos h2]
      · rw [if_pos h1, if_neg h2, if_pos h1, if_neg h2]
      · rw [if_neg h1, if_pos h2, if_neg h1, if_pos h2]
      · rw [if_neg h1, if_neg h2, if_neg h1, if_neg h2]; rfl
theorem compact_take {xs : List (List V)} {k : Nat} (h1 : 1 ≤ k) (h2 : k < xs.length) : compactL cmpR (xs.take (k + 1)) = if cmpR xs[k] xs[k - 1] = 0 then compactL cmpR (xs.take k) else compactL cmpR (xs.take k) ++ [xs[k]] := by
  have e1 : xs.take k = xs.take (k - 1) ++ [xs[k - 1]] := by
    rw [← List.take_succ_eq_append_getElem (by omega), Nat.sub_add_cancel h1]
  rw [List.take_succ_eq_append_getElem h2, e1, compactL_snoc cmpR_cmp]
theorem wrap_ok {x : Int} (h1 : 0 ≤ x) (h2 : x ≤ 9223372036854775807) : IntKind.i64.wrap x = x := by
  simp [IntKind.wrap, IntKind.bits, IntKind.signed]; omega
set_option maxRecDepth 100000 in
theorem run_from (g n c k : Nat) (hk : k < n) (hn : n ≤ c) (hc : c ≤ 9223372036854775807) (w' : World) : (Instr.slice 32 (.slice (some ⟨g, 0, none⟩) n c) (some (.int .i64 (k : Int))) none none).run Try.prog w' = .ok (.slice (some ⟨g, k, none⟩) (n - k) (c - k)) w' := by
  rw [run_slice_l w' 32 _ n c Try.underlying32 .i64 (k : Int) (by omega) (by omega)]
  have hsz : ∀ w, (sizeOf (Try.prog.elem 32)).run Try.prog w = .ok 1 w := fun w => by kernel_rfl
  simp only [hsz, Result.andThen, Int.toNat_natCast, sliced]
  rw [if_neg (by omega)]
  simp [Addr.add] <;> omega
theorem take_range' {α : Type} (l : List α) (d : α) (k : Nat) (h : k ≤ l.length) : l.take k = (List.range k).map (fun i => l.getD i d) := by
  apply List.ext_getElem
  · simp; omega
  · intro i h1 h2
    have : i < l.length := by rw [List.length_take] at h1; omega
    simp [List.getD, this]
set_option maxRecDepth 100000 in
theorem run_to (g n c k : Nat) (hk : k ≤ n) (hn : n ≤ c) (hc : c ≤ 9223372036854775807) (w' : World) : (Instr.slice 32 (.slice (some ⟨g, 0, none⟩) n c) none (some (.int .i64 (k : Int))) none).run Try.prog w' = .ok (.slice (some ⟨g, 0, none⟩) k c) w' := by
  rw [run_slice_h w' 32 _ n c Try.underlying32 .i64 (k : Int) (by omega) (by omega)]
  have hsz : ∀ w, (sizeOf (Try.prog.elem 32)).run Try.prog w = .ok 1 w := fun w => by kernel_rfl
  simp only [hsz, Result.andThen, Int.toNat_natCast, sliced]
  split <;> simp [Addr.add]
set_option maxRecDepth 100000 in
set_option maxHeartbeats 8000000 in
theorem compact_any (lo : Nat) (v : Value) (hs : List Value) (xs : List (List V)) (w : World) (h : OwnR lo w v hs xs) (hlen : xs.length ≤ 1000000000000) (R : Ending → World → Prop)
    (hR : ∀ w' v' hs', Only (fun z => v.ownBlock = some z) w w' → OwnR lo w' v' hs' (compactL cmpR xs) → R (.returned v') w') :
    Calls Try.prog 113 #[v, .func (.func 114) #[] #[]] w R := by
  have HR := Lib.hid hR
  have hl := h.len
  clear hR
  by_cases hsm : hs.length < 2
  · have hc : compactL cmpR xs = xs := by
      match xs, hl with
      | [], _ => rfl
      | [x], _ => rfl
      | _ :: _ :: _, e => rw [e] at hsm; simp only [List.length_cons] at hsm; omega
    have hr := HR.out w v hs (Only.refl _ _) (by rw [hc]; exact h)
    obtain ⟨p, c, rfl⟩ := Own.slice h.own
    have hi : (hs.length : Int) < 2 := by omega
    go_enter Try.func113, Try.ntmps113
    go_wp2_with fail
    first | exact hr | exact fin hr rfl
  · obtain ⟨g, c, hv, hb, hgl, hnc, hcm, -, -⟩ := Own.form h.own (by intro e; rw [e] at hsm; simp at hsm)
    subst hv
    obtain ⟨n, hn⟩ : ∃ n, n = hs.length := ⟨_, rfl⟩
    rw [← hn] at h hl hsm hnc ⊢
    have Hn := Lib.hid hn
    have Hl := Lib.hid hl
    have H := Lib.hid h
    have n2 : ¬ (n : Int) < 2 := by omega
    have hnx : n ≤ 1000000000000 := by omega
    have hap : ∀ i (hi : i < hs.length) k, hs[i].ownBlock = some k → k ≠ g := fun i hi k hk e => h.apart i hi k hk (by rw [e]; rfl)
    have Hap := Lib.hid hap
    -- a row, in whatever world in which block g alone has turned
    have hrow : ∀ w' : World, Only (fun z => z = g) w w' → ∀ i (hi : i < hs.length) (hi2 : i < xs.length), OwnV lo w' hs[i] xs[i] := fun w' ho i hi hi2 =>
      Own.same (h.row i hi hi2) (fun k hk => ho.block k (Own.lt (h.row i hi hi2) k hk).2 (hap i hi k hk))
    have Hrow := Lib.hid hrow
    clear hn hl h hap hrow
    go_enter Try.func113, Try.ntmps113
    go_wp2_with fail
    go_loopw [5] (fun t5 wr => ∃ k : Nat, 1 ≤ k ∧ k ≤ n ∧ t5 = .int .i64 k ∧ Below w.heap.size w wr ∧ compactL cmpR (xs.take k) = xs.take k) (fun t5 _ => n - (intOf t5).toNat)
    case atStart => exact ⟨1, Nat.le_refl _, by omega, rfl, Below.refl _ _, by
      have := Hl.out
      cases xs with
      | nil => rfl
      | cons a r => rfl⟩
    case round =>
      obtain ⟨k, hk1, hkn, rfl, hB, hc⟩ := hrel
      obtain ⟨wo, ewo⟩ : ∃ x, x = wr := ⟨_, rfl⟩
      subst ewo
      have HB := Lib.hid hB
      have Hc := Lib.hid hc
      have hz := hB.size
      clear hB hc
      have kk0 : (0 : Int) ≤ (k : Int) := by omega
      by_cases hlt : k < n
      · obtain ⟨m, hm⟩ : ∃ m, k = m + 1 := ⟨k - 1, by omega⟩
        have hks : k < hs.length := by rw [← Hn.out]; exact hlt
        have hms : m < hs.length := by rw [← Hn.out]; omega
        have hkx : k < xs.length := by rw [← Hl.out]; exact hlt
        have hmx : m < xs.length := by rw [← Hl.out]; omega
        have wsub : IntKind.i64.wrap ((k : Int) - 1) = (m : Int) := by rw [show (k : Int) - 1 = (m : Int) by omega]; exact wrap_ok (by omega) (by omega)
        have hO : OwnH lo wo (.slice (some ⟨g, 0, none⟩) n c) hs := Own.kept H.out.own HB.out
        obtain ⟨g', c', hv', -, -, -, -, hcells, hfr⟩ := Own.form hO (by intro e; rw [e] at hks; simp at hks)
        injection hv' with e1 e2 e3
        injection e1 with e1
        injection e1 with e1
        subst e1 e3
        clear e2
        rw [flat_vE] at hcells
        have gx := hcells k _ (List.getElem?_eq_getElem hks)
        have gy := hcells m _ (List.getElem?_eq_getElem hms)
        rw [Nat.zero_add] at gx gy
        have Hrx := Lib.hid (Hrow.out _ (Below.only HB.out) k hks hkx)
        have Hry := Lib.hid (Hrow.out _ (Below.only HB.out) m hms hmx)
        have Hst := Lib.hid (compact_take (xs := xs) hk1 hkx)
        have Htk := Lib.hid (List.take_succ_eq_append_getElem hkx)
        rw [show xs[k - 1]'(by omega) = xs[m] by congr 1; omega] at Hst
        obtain ⟨xa, xc, ex⟩ := Own.slice Hrx.out
        obtain ⟨ya, yc, ey⟩ := Own.slice Hry.out
        obtain ⟨X, hX⟩ : ∃ X, X = xs[k] := ⟨_, rfl⟩
        obtain ⟨Y, hY⟩ : ∃ Y, Y = xs[m] := ⟨_, rfl⟩
        rw [← hX] at ex Hrx Hst Htk
        rw [← hY] at ey Hry Hst
        obtain ⟨xn, hxn⟩ : ∃ xn, xn = X.length := ⟨_, rfl⟩
        obtain ⟨yn, hyn⟩ : ∃ yn, yn = Y.length := ⟨_, rfl⟩
        rw [← hxn] at ex
        rw [← hyn] at ey
        rw [ex] at gx Hrx
        rw [ey] at gy Hry
        have hgw : g < wo.heap.size := by omega
        have kn : (k : Int) < (n : Int) := by omega
        have mn : (m : Int) < (n : Int) := by omega
        have m0 : (0 : Int) ≤ (m : Int) := by omega
        have Hm := Lib.hid hm
        clear hO hcells hX hY hxn hyn hm ex ey
        go_upto_region 6 with fail
        cases hcmp : (cmpR X Y == 0)
        · have hS0 : Below wo.heap.size wo wo.drew := (Below.refl _ _).drew
          refine wp_region_held_drew (S := fun w' => Below wo.heap.size wo w') (by kernel_rfl) hS0 (fun hHeld => ?_)
          refine wpAnyH_take (i := 0) (v := .func (.func 114) #[] #[]) rfl (by kernel_rfl) (by kernel_rfl) (by kernel_rfl) (fun _ _ _ h => h) (Or.inl ⟨by rfl, ?_⟩) hHeld ?_
          · intro w' hSw; go_simp <;> omega
          try simp only [Act.put, List.getElem_toArray, List.getElem_cons_succ, List.getElem_cons_zero, List.setIfInBounds_toArray, List.set_cons_zero, List.set_cons_succ]
          refine wpAnyH_take (i := 1) (v := .slice (some ⟨g, 0, none⟩) n c) rfl (by kernel_rfl) (by kernel_rfl) (by kernel_rfl) (fun _ _ _ h => h) (Or.inl ⟨by rfl, ?_⟩) hHeld ?_
          · intro w' hSw; go_simp <;> omega
          try simp only [Act.put, List.getElem_toArray, List.getElem_cons_succ, List.getElem_cons_zero, List.setIfInBounds_toArray, List.set_cons_zero, List.set_cons_succ]
          refine wpAnyH_take (i := 2) (v := .int .i64 ((k : Int))) rfl (by kernel_rfl) (by kernel_rfl) (by kernel_rfl) (fun _ _ _ h => h) (Or.inl ⟨by rfl, ?_⟩) hHeld ?_
          · intro w' hSw; go_simp <;> omega
          try simp only [Act.put, List.getElem_toArray, List.getElem_cons_succ, List.getElem_cons_zero, List.setIfInBounds_toArray, List.set_cons_zero, List.set_cons_succ]
          refine wpAnyH_take (i := 3) (v := .pointer (some ⟨g, k, none⟩)) rfl (by kernel_rfl) (by kernel_rfl) (by kernel_rfl) (fun _ _ _ h => h) (Or.inl ⟨by rfl, ?_⟩) hHeld ?_
          · intro w' hSw; go_simp <;> omega
          try simp only [Act.put, List.getElem_toArray, List.getElem_cons_succ, List.getElem_cons_zero, List.setIfInBounds_toArray, List.set_cons_zero, List.set_cons_succ]
          refine wpAnyH_take (i := 4) (v := .slice xa xn xc) rfl (by kernel_rfl) (by kernel_rfl) (by kernel_rfl) (fun _ _ _ h => h) (Or.inl ⟨by rfl, ?_⟩) hHeld ?_
          · intro w' hSw; have kx := (World.cell?_of_block (hSw.block g hgw)).trans gx; go_simp
          try simp only [Act.put, List.getElem_toArray, List.getElem_cons_succ, List.getElem_cons_zero, List.setIfInBounds_toArray, List.set_cons_zero, List.set_cons_succ]
          refine wpAnyH_take (i := 5) (v := .slice (some ⟨g, 0, none⟩) n c) rfl (by kernel_rfl) (by kernel_rfl) (by kernel_rfl) (fun _ _ _ h => h) (Or.inl ⟨by rfl, ?_⟩) hHeld ?_
          · intro w' hSw; go_simp <;> omega
          try simp only [Act.put, List.getElem_toArray, List.getElem_cons_succ, List.getElem_cons_zero, List.setIfInBounds_toArray, List.set_cons_zero, List.set_cons_succ]
          refine wpAnyH_take (i := 6) (v := .int .i64 ((k : Int))) rfl (by kernel_rfl) (by kernel_rfl) (by kernel_rfl) (fun _ _ _ h => h) (Or.inl ⟨by rfl, ?_⟩) hHeld ?_
          · intro w' hSw; go_simp <;> omega
          try simp only [Act.put, List.getElem_toArray, List.getElem_cons_succ, List.getElem_cons_zero, List.setIfInBounds_toArray, List.set_cons_zero, List.set_cons_succ]
          refine wpAnyH_take (i := 7) (v := .int .i64 ((m : Int))) rfl (by kernel_rfl) (by kernel_rfl) (by kernel_rfl) (fun _ _ _ h => h) (Or.inl ⟨by rfl, ?_⟩) hHeld ?_
          · intro w' hSw; go_simp <;> omega
          try simp only [Act.put, List.getElem_toArray, List.getElem_cons_succ, List.getElem_cons_zero, List.setIfInBounds_toArray, List.set_cons_zero, List.set_cons_succ]
          refine wpAnyH_take (i := 8) (v := .pointer (some ⟨g, m, none⟩)) rfl (by kernel_rfl) (by kernel_rfl) (by kernel_rfl) (fun _ _ _ h => h) (Or.inl ⟨by rfl, ?_⟩) hHeld ?_
          · intro w' hSw; go_simp <;> omega
          try simp only [Act.put, List.getElem_toArray, List.getElem_cons_succ, List.getElem_cons_zero, List.setIfInBounds_toArray, List.set_cons_zero, List.set_cons_succ]
          refine wpAnyH_take (i := 9) (v := .slice ya yn yc) rfl (by kernel_rfl) (by kernel_rfl) (by kernel_rfl) (fun _ _ _ h => h) (Or.inl ⟨by rfl, ?_⟩) hHeld ?_
          · intro w' hSw; have kx := (World.cell?_of_block (hSw.block g hgw)).trans gy; go_simp
          try simp only [Act.put, List.getElem_toArray, List.getElem_cons_succ, List.getElem_cons_zero, List.setIfInBounds_toArray, List.set_cons_zero, List.set_cons_succ]
          refine wpAnyH_ready (rs := [10]) (by kernel_rfl) (by simp) ?_
          refine allCall (f := 114) (args := #[.slice xa xn xc, .slice ya yn yc]) rfl (by kernel_rfl) (by kernel_rfl) ?_ AllReadyH.nil
          refine eqRows_any lo wo.heap.size lo wo.heap.size X Y _ _ _ (Sl.below (OwnV.sl Hrx.out) Row1.loc hS0 (Nat.le_refl _)) (Sl.below (OwnV.sl Hry.out) Row1.loc hS0 (Nat.le_refl _)) (Nat.le_refl _) (Nat.le_refl _) _ (fun w5 hg5 => ?_)
          refine ⟨_, rfl, hS0.trans (hg5.below.mono (Nat.le_refl _)), ?_⟩
          have HB5 := Lib.hid (hS0.trans (hg5.below.mono (Nat.le_refl _)))
          clear hg5 hHeld
          have hHeld := HB5.out
          rw [hcmp]
          try simp only [Act.put, List.getElem_toArray, List.getElem_cons_succ, List.getElem_cons_zero, List.setIfInBounds_toArray, List.set_cons_zero, List.set_cons_succ]
          refine wpAnyH_done (by kernel_rfl) ?_ _
          clear hHeld
          have Hne : Hid (cmpR X Y ≠ 0) := Lib.hid (by simpa using hcmp)
          clear hcmp
          have Hc2 : Hid (compactL cmpR (xs.take (k + 1)) = xs.take (k + 1)) := Lib.hid (by rw [Hst.out, if_neg Hne.out, Hc.out, Htk.out])
          go_wp2_with fail
          go_roundw
          case rel => exact ⟨k + 1, by omega, by omega, by go_num, HB.out.trans (HB5.out.mono hz), Hc2.out⟩
          case measure => simp [intOf]; omega
        · have hS0 : Below wo.heap.size wo wo.drew := (Below.refl _ _).drew
          refine wp_region_held_drew (S := fun w' => Below wo.heap.size wo w') (by kernel_rfl) hS0 (fun hHeld => ?_)
          refine wpAnyH_take (i := 0) (v := .func (.func 114) #[] #[]) rfl (by kernel_rfl) (by kernel_rfl) (by kernel_rfl) (fun _ _ _ h => h) (Or.inl ⟨by rfl, ?_⟩) hHeld ?_
          · intro w' hSw; go_simp <;> omega
          try simp only [Act.put, List.getElem_toArray, List.getElem_cons_succ, List.getElem_cons_zero, List.setIfInBounds_toArray, List.set_cons_zero, List.set_cons_succ]
          refine wpAnyH_take (i := 1) (v := .slice (some ⟨g, 0, none⟩) n c) rfl (by kernel_rfl) (by kernel_rfl) (by kernel_rfl) (fun _ _ _ h => h) (Or.inl ⟨by rfl, ?_⟩) hHeld ?_
          · intro w' hSw; go_simp <;> omega
          try simp only [Act.put, List.getElem_toArray, List.getElem_cons_succ, List.getElem_cons_zero, List.setIfInBounds_toArray, List.set_cons_zero, List.set_cons_succ]
          refine wpAnyH_take (i := 2) (v := .int .i64 ((k : Int))) rfl (by kernel_rfl) (by kernel_rfl) (by kernel_rfl) (fun _ _ _ h => h) (Or.inl ⟨by rfl, ?_⟩) hHeld ?_
          · intro w' hSw; go_simp <;> omega
          try simp only [Act.put, List.getElem_toArray, List.getElem_cons_succ, List.getElem_cons_zero, List.setIfInBounds_toArray, List.set_cons_zero, List.set_cons_succ]
          refine wpAnyH_take (i := 3) (v := .pointer (some ⟨g, k, none⟩)) rfl (by kernel_rfl) (by kernel_rfl) (by kernel_rfl) (fun _ _ _ h => h) (Or.inl ⟨by rfl, ?_⟩) hHeld ?_
          · intro w' hSw; go_simp <;> omega
          try simp only [Act.put, List.getElem_toArray, List.getElem_cons_succ, List.getElem_cons_zero, List.setIfInBounds_toArray, List.set_cons_zero, List.set_cons_succ]
          refine wpAnyH_take (i := 4) (v := .slice xa xn xc) rfl (by kernel_rfl) (by kernel_rfl) (by kernel_rfl) (fun _ _ _ h => h) (Or.inl ⟨by rfl, ?_⟩) hHeld ?_
          · intro w' hSw; have kx := (World.cell?_of_block (hSw.block g hgw)).trans gx; go_simp
          try simp only [Act.put, List.getElem_toArray, List.getElem_cons_succ, List.getElem_cons_zero, List.setIfInBounds_toArray, List.set_cons_zero, List.set_cons_succ]
          refine wpAnyH_take (i := 5) (v := .slice (some ⟨g, 0, none⟩) n c) rfl (by kernel_rfl) (by kernel_rfl) (by kernel_rfl) (fun _ _ _ h => h) (Or.inl ⟨by rfl, ?_⟩) hHeld ?_
          · intro w' hSw; go_simp <;> omega
          try simp only [Act.put, List.getElem_toArray, List.getElem_cons_succ, List.getElem_cons_zero, List.setIfInBounds_toArray, List.set_cons_zero, List.set_cons_succ]
          refine wpAnyH_take (i := 6) (v := .int .i64 ((k : Int))) rfl (by kernel_rfl) (by kernel_rfl) (by kernel_rfl) (fun _ _ _ h => h) (Or.inl ⟨by rfl, ?_⟩) hHeld ?_
          · intro w' hSw; go_simp <;> omega
          try simp only [Act.put, List.getElem_toArray, List.getElem_cons_succ, List.getElem_cons_zero, List.setIfInBounds_toArray, List.set_cons_zero, List.set_cons_succ]
          refine wpAnyH_take (i := 7) (v := .int .i64 ((m : Int))) rfl (by kernel_rfl) (by kernel_rfl) (by kernel_rfl) (fun _ _ _ h => h) (Or.inl ⟨by rfl, ?_⟩) hHeld ?_
          · intro w' hSw; go_simp <;> omega
          try simp only [Act.put, List.getElem_toArray, List.getElem_cons_succ, List.getElem_cons_zero, List.setIfInBounds_toArray, List.set_cons_zero, List.set_cons_succ]
          refine wpAnyH_take (i := 8) (v := .pointer (some ⟨g, m, none⟩)) rfl (by kernel_rfl) (by kernel_rfl) (by kernel_rfl) (fun _ _ _ h => h) (Or.inl ⟨by rfl, ?_⟩) hHeld ?_
          · intro w' hSw; go_simp <;> omega
          try simp only [Act.put, List.getElem_toArray, List.getElem_cons_succ, List.getElem_cons_zero, List.setIfInBounds_toArray, List.set_cons_zero, List.set_cons_succ]
          refine wpAnyH_take (i := 9) (v := .slice ya yn yc) rfl (by kernel_rfl) (by kernel_rfl) (by kernel_rfl) (fun _ _ _ h => h) (Or.inl ⟨by rfl, ?_⟩) hHeld ?_
          · intro w' hSw; have kx := (World.cell?_of_block (hSw.block g hgw)).trans gy; go_simp
          try simp only [Act.put, List.getElem_toArray, List.getElem_cons_succ, List.getElem_cons_zero, List.setIfInBounds_toArray, List.set_cons_zero, List.set_cons_succ]
          refine wpAnyH_ready (rs := [10]) (by kernel_rfl) (by simp) ?_
          refine allCall (f := 114) (args := #[.slice xa xn xc, .slice ya yn yc]) rfl (by kernel_rfl) (by kernel_rfl) ?_ AllReadyH.nil
          refine eqRows_any lo wo.heap.size lo wo.heap.size X Y _ _ _ (Sl.below (OwnV.sl Hrx.out) Row1.loc hS0 (Nat.le_refl _)) (Sl.below (OwnV.sl Hry.out) Row1.loc hS0 (Nat.le_refl _)) (Nat.le_refl _) (Nat.le_refl _) _ (fun w5 hg5 => ?_)
          refine ⟨_, rfl, hS0.trans (hg5.below.mono (Nat.le_refl _)), ?_⟩
          have HB5 := Lib.hid (hS0.trans (hg5.below.mono (Nat.le_refl _)))
          clear hg5 hHeld
          have hHeld := HB5.out
          rw [hcmp]
          try simp only [Act.put, List.getElem_toArray, List.getElem_cons_succ, List.getElem_cons_zero, List.setIfInBounds_toArray, List.set_cons_zero, List.set_cons_succ]
          refine wpAnyH_done (by kernel_rfl) ?_ _
          clear hHeld
          have Heq : Hid (cmpR X Y = 0) := Lib.hid (by simpa using hcmp)
          clear hcmp
          have Hc2 : Hid (compactL cmpR (xs.take (k + 1)) = xs.take k) := Lib.hid (by rw [Hst.out, if_pos Heq.out, Hc.out])
          have HB6 := Lib.hid (HB.out.trans (HB5.out.mono hz))
          have hrf := run_from g n c k hlt hnc hcm
          have hrt := fun k' (hk' : k' ≤ n) => run_to g n c k' hk' hnc hcm
          have Hrt := Lib.hid hrt
          obtain ⟨k0, hk0⟩ : ∃ k0, k0 = k := ⟨_, rfl⟩
          rw [← hk0] at hrf
          have Hk0 := Lib.hid hk0
          clear hrt hk0 gx gy Hrx Hry
          obtain ⟨n2, hn2⟩ : ∃ n2, n2 = n - k0 := ⟨_, rfl⟩
          obtain ⟨c2, hc2⟩ : ∃ c2, c2 = c - k0 := ⟨_, rfl⟩
          rw [← hn2, ← hc2] at hrf
          have Hn2 := Lib.hid hn2
          clear hn2 hc2
          rw [← Hk0.out]
          go_wp2_with fail
          go_loopw [5, 7] (fun t5 t7 wr => ∃ (k' k2 : Nat) (hs' : List Value) (ix : List Nat), 1 ≤ k2 ∧ k0 + k2 ≤ n ∧ k' + 1 ≤ k0 + k2 ∧ t5 = .int .i64 k' ∧ t7 = .int .i64 k2 ∧ OwnH lo wr (.slice (some ⟨g, 0, none⟩) n c) hs' ∧ (∀ j, k0 + k2 ≤ j + 1 → hs'[j]? = hs[j]?) ∧ hs'.length = n ∧ ix.length = k' ∧ hs'.take k' = ix.map (fun i => hs.getD i (.slice none 0 0)) ∧ compactL cmpR (xs.take (k0 + k2)) = ix.map (fun i => xs.getD i []) ∧ (∀ i ∈ ix, i < n) ∧ Only (fun z => z = g) w wr) (fun _ t7 _ => n - (intOf t7).toNat)
          case atStart => exact ⟨k0, 1, hs, List.range k0, Nat.le_refl _, by have := Hk0.out; omega, Nat.le_refl _, rfl, rfl, Own.kept H.out.own HB6.out, fun j _ => rfl, Hn.out.symm, by simp, take_range' _ _ _ (by have := Hk0.out; have := Hn.out; omega), by rw [Hk0.out, Hc2.out]; exact take_range' _ _ _ (by have := Hl.out; omega), fun i hi => by have := List.mem_range.1 hi; have := Hk0.out; omega, Below.only HB6.out⟩
          case round =>
            obtain ⟨k', k2, hs', ix, h1, h2, h3, rfl, rfl, ho', hsame, hlen', hixl, htk, hcx, hixn, hOn⟩ := hrel
            obtain ⟨wi, ewi⟩ : ∃ x, x = wr := ⟨_, rfl⟩
            subst ewi
            have Ho' := Lib.hid ho'
            have Hsame := Lib.hid hsame
            have Hlen' := Lib.hid hlen'
            have Hixl := Lib.hid hixl
            have Htk := Lib.hid htk
            have Hcx := Lib.hid hcx
            have Hixn := Lib.hid hixn
            have HOn := Lib.hid hOn
            have hzi := hOn.size
            clear ho' hsame hlen' hixl htk hcx hixn hOn hrf
            have kk2 : (0 : Int) ≤ (k2 : Int) := by omega
            by_cases hlt2 : k2 < n2
            · have hn2 := Hn2.out
              have hkn2 : k0 + k2 < n := by omega
              obtain ⟨m2, hm2⟩ : ∃ m2, k2 = m2 + 1 := ⟨k2 - 1, by omega⟩
              have hks : k0 + k2 < hs.length := by rw [← Hn.out]; exact hkn2
              have hms : k0 + m2 < hs.length := by rw [← Hn.out]; omega
              have hkx : k0 + k2 < xs.length := by rw [← Hl.out]; exact hkn2
              have hmx : k0 + m2 < xs.length := by rw [← Hl.out]; omega
              have wsub2 : IntKind.i64.wrap ((k2 : Int) - 1) = (m2 : Int) := by rw [show (k2 : Int) - 1 = (m2 : Int) by omega]; exact wrap_ok (by omega) (by omega)
              obtain ⟨g', c', hv', -, hgw, -, -, hcells, hfr⟩ := Own.form Ho'.out (by intro e; have := Hlen'.out; rw [e] at this; simp at this; omega)
              injection hv' with e1 e2 e3
              injection e1 with e1
              injection e1 with e1
              subst e1 e3
              clear e2
              rw [flat_vE] at hcells
              have gx := hcells (k0 + k2) _ ((Hsame.out (k0 + k2) (by omega)).trans (List.getElem?_eq_getElem hks))
              have gy := hcells (k0 + m2) _ ((Hsame.out (k0 + m2) (by omega)).trans (List.getElem?_eq_getElem hms))
              obtain ⟨u', gk⟩ : ∃ u, wi.cell? ⟨g, 0 + k', none⟩ = some u := ⟨_, hcells k' _ (List.getElem?_eq_getElem (by rw [Hlen'.out]; omega))⟩
              have fk := hfr k'
              rw [Nat.zero_add] at gx gy gk
              have Hrx := Lib.hid (Hrow.out _ HOn.out _ hks hkx)
              have Hry := Lib.hid (Hrow.out _ HOn.out _ hms hmx)
              have Hst := Lib.hid (compact_take (xs := xs) (k := k0 + k2) (by omega) hkx)
              rw [show xs[k0 + k2 - 1]'(by omega) = xs[k0 + m2] by congr 1; omega] at Hst
              obtain ⟨xa, xc, ex⟩ := Own.slice Hrx.out
              obtain ⟨ya, yc, ey⟩ := Own.slice Hry.out
              have Hxd : Hid (xs.getD (k0 + k2) [] = xs[k0 + k2]) := Lib.hid (getDS xs _ _ hkx)
              have Hhd : Hid (hs.getD (k0 + k2) (.slice none 0 0) = hs[k0 + k2]) := Lib.hid (getDS hs _ _ hks)
              obtain ⟨X, hX⟩ : ∃ X, X = xs[k0 + k2] := ⟨_, rfl⟩
              obtain ⟨Y, hY⟩ : ∃ Y, Y = xs[k0 + m2] := ⟨_, rfl⟩
              rw [← hX] at ex Hrx Hst Hxd
              rw [← hY] at ey Hry Hst
              obtain ⟨xn, hxn⟩ : ∃ xn, xn = X.length := ⟨_, rfl⟩
              obtain ⟨yn, hyn⟩ : ∃ yn, yn = Y.length := ⟨_, rfl⟩
              rw [← hxn] at ex
              rw [← hyn] at ey
              rw [ex] at gx Hrx Hhd
              rw [ey] at gy Hry
              have k2n : (k2 : Int) < (n2 : Int) := by omega
              have m2n : (m2 : Int) < (n2 : Int) := by omega
              have m20 : (0 : Int) ≤ (m2 : Int) := by omega
              have k'n : (k' : Int) < (n : Int) := by omega
              have k'0 : (0 : Int) ≤ (k' : Int) := by omega
              have Hm2 := Lib.hid hm2
              clear hcells hfr hX hY hxn hyn hm2 ex ey hn2
              go_upto_region 11 with fail
              cases hcmp : (cmpR X Y == 0)
              · have hS0 : Below wi.heap.size wi wi.drew := (Below.refl _ _).drew
                refine wp_region_held_drew (S := fun w' => Below wi.heap.size wi w') (by kernel_rfl) hS0 (fun hHeld => ?_)
                refine wpAnyH_take (i := 0) (v := .func (.func 114) #[] #[]) rfl (by kernel_rfl) (by kernel_rfl) (by kernel_rfl) (fun _ _ _ h => h) (Or.inl ⟨by rfl, ?_⟩) hHeld ?_
                · intro w' hSw; go_simp <;> omega
                try simp only [Act.put, List.getElem_toArray, List.getElem_cons_succ, List.getElem_cons_zero, List.setIfInBounds_toArray, List.set_cons_zero, List.set_cons_succ]
                refine wpAnyH_take (i := 1) (v := .slice (some ⟨g, k0, none⟩) n2 c2) rfl (by kernel_rfl) (by kernel_rfl) (by kernel_rfl) (fun _ _ _ h => h) (Or.inl ⟨by rfl, ?_⟩) hHeld ?_
                · intro w' hSw; go_simp <;> omega
                try simp only [Act.put, List.getElem_toArray, List.getElem_cons_succ, List.getElem_cons_zero, List.setIfInBounds_toArray, List.set_cons_zero, List.set_cons_succ]
                refine wpAnyH_take (i := 2) (v := .int .i64 ((k2 : Int))) rfl (by kernel_rfl) (by kernel_rfl) (by kernel_rfl) (fun _ _ _ h => h) (Or.inl ⟨by rfl, ?_⟩) hHeld ?_
                · intro w' hSw; go_simp <;> omega
                try simp only [Act.put, List.getElem_toArray, List.getElem_cons_succ, List.getElem_cons_zero, List.setIfInBounds_toArray, List.set_cons_zero, List.set_cons_succ]
                refine wpAnyH_take (i := 3) (v := .pointer (some ⟨g, k0 + k2, none⟩)) rfl (by kernel_rfl) (by kernel_rfl) (by kernel_rfl) (fun _ _ _ h => h) (Or.inl ⟨by rfl, ?_⟩) hHeld ?_
                · intro w' hSw; go_simp <;> omega
                try simp only [Act.put, List.getElem_toArray, List.getElem_cons_succ, List.getElem_cons_zero, List.setIfInBounds_toArray, List.set_cons_zero, List.set_cons_succ]
                refine wpAnyH_take (i := 4) (v := .slice xa xn xc) rfl (by kernel_rfl) (by kernel_rfl) (by kernel_rfl) (fun _ _ _ h => h) (Or.inl ⟨by rfl, ?_⟩) hHeld ?_
                · intro w' hSw; have kx := (World.cell?_of_block (hSw.block g hgw)).trans gx; go_simp
                try simp only [Act.put, List.getElem_toArray, List.getElem_cons_succ, List.getElem_cons_zero, List.setIfInBounds_toArray, List.set_cons_zero, List.set_cons_succ]
                refine wpAnyH_take (i := 5) (v := .slice (some ⟨g, k0, none⟩) n2 c2) rfl (by kernel_rfl) (by kernel_rfl) (by kernel_rfl) (fun _ _ _ h => h) (Or.inl ⟨by rfl, ?_⟩) hHeld ?_
                · intro w' hSw; go_simp <;> omega
                try simp only [Act.put, List.getElem_toArray, List.getElem_cons_succ, List.getElem_cons_zero, List.setIfInBounds_toArray, List.set_cons_zero, List.set_cons_succ]
                refine wpAnyH_take (i := 6) (v := .int .i64 ((k2 : Int))) rfl (by kernel_rfl) (by kernel_rfl) (by kernel_rfl) (fun _ _ _ h => h) (Or.inl ⟨by rfl, ?_⟩) hHeld ?_
                · intro w' hSw; go_simp <;> omega
                try simp only [Act.put, List.getElem_toArray, List.getElem_cons_succ, List.getElem_cons_zero, List.setIfInBounds_toArray, List.set_cons_zero, List.set_cons_succ]
                refine wpAnyH_take (i := 7) (v := .int .i64 ((m2 : Int))) rfl (by kernel_rfl) (by kernel_rfl) (by kernel_rfl) (fun _ _ _ h => h) (Or.inl ⟨by rfl, ?_⟩) hHeld ?_
                · intro w' hSw; go_simp <;> omega
                try simp only [Act.put, List.getElem_toArray, List.getElem_cons_succ, List.getElem_cons_zero, List.setIfInBounds_toArray, List.set_cons_zero, List.set_cons_succ]
                refine wpAnyH_take (i := 8) (v := .pointer (some ⟨g, k0 + m2, none⟩)) rfl (by kernel_rfl) (by kernel_rfl) (by kernel_rfl) (fun _ _ _ h => h) (Or.inl ⟨by rfl, ?_⟩) hHeld ?_
                · intro w' hSw; go_simp <;> omega
                try simp only [Act.put, List.getElem_toArray, List.getElem_cons_succ, List.getElem_cons_zero, List.setIfInBounds_toArray, List.set_cons_zero, List.set_cons_succ]
                refine wpAnyH_take (i := 9) (v := .slice ya yn yc) rfl (by kernel_rfl) (by kernel_rfl) (by kernel_rfl) (fun _ _ _ h => h) (Or.inl ⟨by rfl, ?_⟩) hHeld ?_
                · intro w' hSw; have kx := (World.cell?_of_block (hSw.block g hgw)).trans gy; go_simp
                try simp only [Act.put, List.getElem_toArray, List.getElem_cons_succ, List.getElem_cons_zero, List.setIfInBounds_toArray, List.set_cons_zero, List.set_cons_succ]
                refine wpAnyH_ready (rs := [10]) (by kernel_rfl) (by simp) ?_
                refine allCall (f := 114) (args := #[.slice xa xn xc, .slice ya yn yc]) rfl (by kernel_rfl) (by kernel_rfl) ?_ AllReadyH.nil
                refine eqRows_any lo wi.heap.size lo wi.heap.size X Y _ _ _ (Sl.below (OwnV.sl Hrx.out) Row1.loc hS0 (Nat.le_refl _)) (Sl.below (OwnV.sl Hry.out) Row1.loc hS0 (Nat.le_refl _)) (Nat.le_refl _) (Nat.le_refl _) _ (fun w5b hg5 => ?_)
                refine ⟨_, rfl, hS0.trans (hg5.below.mono (Nat.le_refl _)), ?_⟩
                have HB5 := Lib.hid (hS0.trans (hg5.below.mono (Nat.le_refl _)))
                clear hg5 hHeld
                have hHeld := HB5.out
                rw [hcmp]
                try simp only [Act.put, List.getElem_toArray, List.getElem_cons_succ, List.getElem_cons_zero, List.setIfInBounds_toArray, List.set_cons_zero, List.set_cons_succ]
                refine wpAnyH_take (i := 11) (v := .bool true) rfl (by kernel_rfl) (by kernel_rfl) (by kernel_rfl) (fun _ _ _ h => h) (Or.inl ⟨by rfl, ?_⟩) hHeld ?_
                · intro w' hSw; go_simp <;> omega
                try simp only [Act.put, List.getElem_toArray, List.getElem_cons_succ, List.getElem_cons_zero, List.setIfInBounds_toArray, List.set_cons_zero, List.set_cons_succ]
                refine wpAnyH_done (by kernel_rfl) ?_ _
                clear hHeld
                have Hne : Hid (cmpR X Y ≠ 0) := Lib.hid (by simpa using hcmp)
                clear hcmp
                have gx5 : w5b.cell? ⟨g, k0 + k2, none⟩ = some (.slice xa xn xc) := (World.cell?_of_block (HB5.out.block g hgw)).trans gx
                have gk5 := (World.cell?_of_block (a := ⟨g, k', none⟩) (HB5.out.block g hgw)).trans gk
                have fk5 : w5b.frozen? ⟨g, k', none⟩ = false := by have hb := HB5.out.block g hgw; simpa [World.frozen?, hb] using fk
                have HO5 := Lib.hid (Own.setAt (Own.kept Ho'.out HB5.out) (j := k') (by rw [Hlen'.out]; omega) (.slice xa xn xc))
                have HOn5 := Lib.hid ((HOn.out.trans (Below.only HB5.out)).trans (Only.setCell (A := fun z => z = g) w5b (p := ⟨g, k', none⟩) rfl (.slice xa xn xc)))
                have Hs5 : Hid (∀ j, k0 + (k2 + 1) ≤ j + 1 → (hs'.set k' (.slice xa xn xc))[j]? = hs[j]?) := Lib.hid (fun j hj => by
                  rw [List.getElem?_set_ne (by omega)]
                  exact Hsame.out j (by omega))
                have Ht5 : Hid ((hs'.set k' (.slice xa xn xc)).take (k' + 1) = (ix ++ [k0 + k2]).map (fun i => hs.getD i (.slice none 0 0))) := Lib.hid (by
                  rw [List.map_append, ← Htk.out, List.take_succ_eq_append_getElem (by rw [List.length_set, Hlen'.out]; omega), List.take_set_of_le (Nat.le_refl _), List.getElem_set_self]
                  simp only [List.map_cons, List.map_nil, Hhd.out])
                have Hc5 : Hid (compactL cmpR (xs.take (k0 + (k2 + 1))) = (ix ++ [k0 + k2]).map (fun i => xs.getD i [])) := Lib.hid (by
                  rw [← Nat.add_assoc, Hst.out, if_neg Hne.out, Hcx.out, List.map_append]
                  simp only [List.map_cons, List.map_nil, Hxd.out])
                clear gx gy gk fk Hrx Hry
                go_wp2_with fail
                go_roundw
                case rel => exact ⟨k' + 1, k2 + 1, _, ix ++ [k0 + k2], by omega, by omega, by omega, by go_num, by go_num, HO5.out, Hs5.out, by rw [List.length_set]; exact Hlen'.out, by rw [List.length_append, Hixl.out]; rfl, Ht5.out, Hc5.out, fun i hi => by
                  rcases List.mem_append.1 hi with hi | hi
                  · exact Hixn.out i hi
                  · rw [List.mem_singleton] at hi; omega, HOn5.out⟩
                case measure => simp [intOf]; omega
              · have hS0 : Below wi.heap.size wi wi.drew := (Below.refl _ _).drew
                refine wp_region_held_drew (S := fun w' => Below wi.heap.size wi w') (by kernel_rfl) hS0 (fun hHeld => ?_)
                refine wpAnyH_take (i := 0) (v := .func (.func 114) #[] #[]) rfl (by kernel_rfl) (by kernel_rfl) (by kernel_rfl) (fun _ _ _ h => h) (Or.inl ⟨by rfl, ?_⟩) hHeld ?_
                · intro w' hSw; go_simp <;> omega
                try simp only [Act.put, List.getElem_toArray, List.getElem_cons_succ, List.getElem_cons_zero, List.setIfInBounds_toArray, List.set_cons_zero, List.set_cons_succ]
                refine wpAnyH_take (i := 1) (v := .slice (some ⟨g, k0, none⟩) n2 c2) rfl (by kernel_rfl) (by kernel_rfl) (by kernel_rfl) (fun _ _ _ h => h) (Or.inl ⟨by rfl, ?_⟩) hHeld ?_
                · intro w' hSw; go_simp <;> omega
                try simp only [Act.put, List.getElem_toArray, List.getElem_cons_succ, List.getElem_cons_zero, List.setIfInBounds_toArray, List.set_cons_zero, List.set_cons_succ]
                refine wpAnyH_take (i := 2) (v := .int .i64 ((k2 : Int))) rfl (by kernel_rfl) (by kernel_rfl) (by kernel_rfl) (fun _ _ _ h => h) (Or.inl ⟨by rfl, ?_⟩) hHeld ?_
                · intro w' hSw; go_simp <;> omega
                try simp only [Act.put, List.getElem_toArray, List.getElem_cons_succ, List.getElem_cons_zero, List.setIfInBounds_toArray, List.set_cons_zero, List.set_cons_succ]
                refine wpAnyH_take (i := 3) (v := .pointer (some ⟨g, k0 + k2, none⟩)) rfl (by kernel_rfl) (by kernel_rfl) (by kernel_rfl) (fun _ _ _ h => h) (Or.inl ⟨by rfl, ?_⟩) hHeld ?_
                · intro w' hSw; go_simp <;> omega
                try simp only [Act.put, List.getElem_toArray, List.getElem_cons_succ, List.getElem_cons_zero, List.setIfInBounds_toArray, List.set_cons_zero, List.set_cons_succ]
                refine wpAnyH_take (i := 4) (v := .slice xa xn xc) rfl (by kernel_rfl) (by kernel_rfl) (by kernel_rfl) (fun _ _ _ h => h) (Or.inl ⟨by rfl, ?_⟩) hHeld ?_
                · intro w' hSw; have kx := (World.cell?_of_block (hSw.block g hgw)).trans gx; go_simp
                try simp only [Act.put, List.getElem_toArray, List.getElem_cons_succ, List.getElem_cons_zero, List.setIfInBounds_toArray, List.set_cons_zero, List.set_cons_succ]
                refine wpAnyH_take (i := 5) (v := .slice (some ⟨g, k0, none⟩) n2 c2) rfl (by kernel_rfl) (by kernel_rfl) (by kernel_rfl) (fun _ _ _ h => h) (Or.inl ⟨by rfl, ?_⟩) hHeld ?_
                · intro w' hSw; go_simp <;> omega
                try simp only [Act.put, List.getElem_toArray, List.getElem_cons_succ, List.getElem_cons_zero, List.setIfInBounds_toArray, List.set_cons_zero, List.set_cons_succ]
                refine wpAnyH_take (i := 6) (v := .int .i64 ((k2 : Int))) rfl (by kernel_rfl) (by kernel_rfl) (by kernel_rfl) (fun _ _ _ h => h) (Or.inl ⟨by rfl, ?_⟩) hHeld ?_
                · intro w' hSw; go_simp <;> omega
                try simp only [Act.put, List.getElem_toArray, List.getElem_cons_succ, List.getElem_cons_zero, List.setIfInBounds_toArray, List.set_cons_zero, List.set_cons_succ]
                refine wpAnyH_take (i := 7) (v := .int .i64 ((m2 : Int))) rfl (by kernel_rfl) (by kernel_rfl) (by kernel_rfl) (fun _ _ _ h => h) (Or.inl ⟨by rfl, ?_⟩) hHeld ?_
                · intro w' hSw; go_simp <;> omega
                try simp only [Act.put, List.getElem_toArray, List.getElem_cons_succ, List.getElem_cons_zero, List.setIfInBounds_toArray, List.set_cons_zero, List.set_cons_succ]
                refine wpAnyH_take (i := 8) (v := .pointer (some ⟨g, k0 + m2, none⟩)) rfl (by kernel_rfl) (by kernel_rfl) (by kernel_rfl) (fun _ _ _ h => h) (Or.inl ⟨by rfl, ?_⟩) hHeld ?_
                · intro w' hSw; go_simp <;> omega
                try simp only [Act.put, List.getElem_toArray, List.getElem_cons_succ, List.getElem_cons_zero, List.setIfInBounds_toArray, List.set_cons_zero, List.set_cons_succ]
                refine wpAnyH_take (i := 9) (v := .slice ya yn yc) rfl (by kernel_rfl) (by kernel_rfl) (by kernel_rfl) (fun _ _ _ h => h) (Or.inl ⟨by rfl, ?_⟩) hHeld ?_
                · intro w' hSw; have kx := (World.cell?_of_block (hSw.block g hgw)).trans gy; go_simp
                try simp only [Act.put, List.getElem_toArray, List.getElem_cons_succ, List.getElem_cons_zero, List.setIfInBounds_toArray, List.set_cons_zero, List.set_cons_succ]
                refine wpAnyH_ready (rs := [10]) (by kernel_rfl) (by simp) ?_
                refine allCall (f := 114) (args := #[.slice xa xn xc, .slice ya yn yc]) rfl (by kernel_rfl) (by kernel_rfl) ?_ AllReadyH.nil
                refine eqRows_any lo wi.heap.size lo wi.heap.size X Y _ _ _ (Sl.below (OwnV.sl Hrx.out) Row1.loc hS0 (Nat.le_refl _)) (Sl.below (OwnV.sl Hry.out) Row1.loc hS0 (Nat.le_refl _)) (Nat.le_refl _) (Nat.le_refl _) _ (fun w5b hg5 => ?_)
                refine ⟨_, rfl, hS0.trans (hg5.below.mono (Nat.le_refl _)), ?_⟩
                have HB5 := Lib.hid (hS0.trans (hg5.below.mono (Nat.le_refl _)))
                clear hg5 hHeld
                have hHeld := HB5.out
                rw [hcmp]
                try simp only [Act.put, List.getElem_toArray, List.getElem_cons_succ, List.getElem_cons_zero, List.setIfInBounds_toArray, List.set_cons_zero, List.set_cons_succ]
                refine wpAnyH_take (i := 11) (v := .bool false) rfl (by kernel_rfl) (by kernel_rfl) (by kernel_rfl) (fun _ _ _ h => h) (Or.inl ⟨by rfl, ?_⟩) hHeld ?_
                · intro w' hSw; go_simp <;> omega
                try simp only [Act.put, List.getElem_toArray, List.getElem_cons_succ, List.getElem_cons_zero, List.setIfInBounds_toArray, List.set_cons_zero, List.set_cons_succ]
                refine wpAnyH_done (by kernel_rfl) ?_ _
                clear hHeld
                have Heq : Hid (cmpR X Y = 0) := Lib.hid (by simpa using hcmp)
                clear hcmp gx gy gk fk Hrx Hry
                go_wp2_with fail
                go_roundw
                case rel => exact ⟨k', k2 + 1, hs', ix, by omega, by omega, by omega, rfl, by go_num, Own.kept Ho'.out HB5.out, fun j hj => Hsame.out j (by omega), Hlen'.out, Hixl.out, Htk.out, by rw [← Nat.add_assoc, Hst.out, if_pos Heq.out]; exact Hcx.out, Hixn.out, HOn.out.trans (Below.only HB5.out)⟩
                case measure => simp [intOf]; omega
            · have hn2 := Hn2.out
              have hall : k0 + k2 = n := by have := Hk0.out; omega
              have hk'n : k' < n := by omega
              obtain ⟨g', c', hv', -, hgw, -, -, hcells, hfr⟩ := Own.form Ho'.out (by intro e; have := Hlen'.out; rw [e] at this; simp at this; omega)
              injection hv' with e1 e2 e3
              injection e1 with e1
              injection e1 with e1
              subst e1 e3
              clear e2
              rw [flat_vE] at hcells
              have hcl := fun ty => Lib.run_clear_slice (P := Try.prog) wi 32 42 ty (.slice none 0 0) Try.underlying32 (fun w => by kernel_rfl) rfl rfl g k' (n - k') (c - k') (by omega)
                (fun j hj => by
                  have := hcells (k' + j) _ (List.getElem?_eq_getElem (by rw [Hlen'.out]; omega))
                  rw [Nat.zero_add] at this
                  rw [this]; rfl) (fun j hj => hfr _)
              have hrf := run_from g n c k' hk'n hnc hcm
              have hrt := Hrt.out k' (by omega)
              have hcx := Hcx.out
              rw [hall, List.take_of_length_le (by rw [← Hl.out]; exact Nat.le_refl _)] at hcx
              have hOnF := HOn.out.trans (only_setCells g (List.replicate (n - k') (.slice none 0 0)) wi k')
              have hcut := Own.cut Ho'.out (k := k') (by rw [Hlen'.out]; omega)
              have hown := Own.setOut (List.replicate (n - k') (.slice none 0 0)) wi k' hcut (by rw [List.length_take]; omega)
              have hlk : (hs'.take k').length = k' := by rw [List.length_take, Hlen'.out]; omega
              have hr := HR.out (wi.setCells g k' (List.replicate (n - k') (.slice none 0 0))) (.slice (some ⟨g, 0, none⟩) k' c) (hs'.take k') (hOnF.mono (fun z _ hz => by rw [hz]; rfl)) (by
                refine ⟨hown, by rw [hlk, hcx, List.length_map, Hixl.out], fun i hi hi2 => ?_, fun i hi q hq => ?_⟩
                · have hii : i < ix.length := by rw [hlk] at hi; rw [Hixl.out]; exact hi
                  have hin := Hixn.out _ (List.getElem_mem hii)
                  have e1 : (hs'.take k')[i] = hs[ix[i]]'(by rw [← Hn.out]; exact hin) := by
                    simp only [Htk.out, List.getElem_map]
                    exact getDS hs _ _ (by rw [← Hn.out]; exact hin)
                  have e2 : (compactL cmpR xs)[i] = xs[ix[i]]'(by rw [← Hl.out]; exact hin) := by
                    simp only [hcx, List.getElem_map]
                    exact getDS xs _ _ (by rw [← Hl.out]; exact hin)
                  rw [e1, e2]
                  exact Hrow.out _ hOnF _ _ _
                · have hii : i < ix.length := by rw [hlk] at hi; rw [Hixl.out]; exact hi
                  have hin := Hixn.out _ (List.getElem_mem hii)
                  have e1 : (hs'.take k')[i] = hs[ix[i]]'(by rw [← Hn.out]; exact hin) := by
                    simp only [Htk.out, List.getElem_map]
                    exact getDS hs _ _ (by rw [← Hn.out]; exact hin)
                  rw [e1] at hq
                  have := Hap.out _ _ q hq
                  intro e
                  exact this (by simpa [Value.ownBlock, eq_comm] using e))
              have k2n : ¬ (k2 : Int) < (n2 : Int) := by omega
              clear hcells hfr hOnF hcut hown hcx hlk
              go_wp2_with fail
              first | exact hr | exact fin hr rfl
      · obtain rfl : k = n := by omega
        have hcx := Hc.out
        rw [List.take_of_length_le (by rw [← Hl.out]; exact Nat.le_refl _)] at hcx
        have hr := HR.out wo _ hs (Below.only HB.out) (by rw [hcx]; exact H.out.kept HB.out)
        clear hcx
        have nn : ¬ ((k : Nat) : Int) < (k : Int) := by omega
        go_wp2_with fail
        first | exact hr | exact fin hr rfl
end Go.Proofs.Ytpncblagjkbemaa
end

/- The relation of rows: made. -/
section
set_option linter.unusedVariables false
set_option linter.unusedSimpArgs false
namespace Go.Proofs.Ytpncblagjkbemaa
open Go.RowKit
set_option linter.unusedVariables false
set_option linter.unusedSimpArgs false

theorem alloc_below (w : World) (o : Obj) : Below w.heap.size w (w.alloc o) := (Below.refl _ _).alloc (Nat.le_refl _) _
/-- What a slice owns is no block of another type. -/
theorem Own.ne_blk {α : Type} {enc : α → List Value} {e : TypeId} {size lo : Nat} {w : World} {v : Value} {xs : List α} (h : Own enc e size lo w v xs) {b : Nat} {cs : List Value} {t : TypeId} (hb : Blk w b cs t) (ht : t ≠ e) : v.ownBlock ≠ some b := by
  intro hk
  rcases h.2 with ⟨rfl, -⟩ | ⟨g, cap, cur, rfl, -, hg, -⟩
  · cases hk
  · have e1 : g = b := by simpa [Value.ownBlock] using hk
    subst e1
    unfold Blk at hb
    rw [hg] at hb
    injection hb with hb
    injection hb with _ hb
    exact ht hb.symm
theorem OwnR.setBlk {lo : Nat} {w : World} {v : Value} {hs : List Value} {xs : List (List V)} (h : OwnR lo w v hs xs) {b : Nat} {cs : List Value} {t : TypeId} (hb : Blk w b cs t) (h1 : t ≠ 42) (h2 : t ≠ 24) (i : Nat) (u : Value) : OwnR lo (w.setCell ⟨b, i, none⟩ u) v hs xs :=
  ⟨Own.setOther h.own (Own.ne_blk h.own hb h1) u, h.len, fun i hi hi2 => Own.setOther (h.row i hi hi2) (Own.ne_blk (h.row i hi hi2) hb h2) u, h.apart⟩
def relCanon (xs : List (List V)) : List (List V) := canonL cmpR xs
theorem canon_len_le (xs : List (List V)) : (relCanon xs).length ≤ xs.length := by
  have key : ∀ (l o : List (List V)), (l.foldl (fun o x => insR cmpR x o) o).length ≤ o.length + l.length := by
    intro l
    induction l with
    | nil => intro o; simp
    | cons x r ih =>
      intro o
      rw [List.foldl_cons]
      have h1 := ih (insR cmpR x o)
      have h2 : (insR cmpR x o).length ≤ o.length + 1 := by
        clear h1 ih
        induction o with
        | nil => simp [insR]
        | cons y o ih =>
          simp only [insR]
          split
          · simp
          · split
            · simp
            · simp only [List.length_cons]; omega
      rw [List.length_cons]
      omega
  have := key xs []
  simpa [relCanon, canonL] using this
set_option maxRecDepth 100000 in
set_option maxHeartbeats 4000000 in
theorem made_any (lo lc hc : Nat) (cols : List S) (cv : Value) (xs : List (List V)) (hs : List Value) (v : Value) (w : World) (hcols : Strs lc hc w cv cols) (hhc : hc ≤ lo) (hlo : lo ≤ w.heap.size) (h : OwnR lo w v hs xs) (hlen : xs.length ≤ 1000000000000) (R : Ending → World → Prop)
    (hbad : (32 < cols.length ∨ 100000 < (relCanon xs).length) → ∀ w', Below lo w w' → w.heap.size ≤ w'.heap.size → R (.returned (.tuple #[.agg #[.slice none 0 0, .slice none 0 0], .int .i64 140])) w')
    (hok : cols.length ≤ 32 → (relCanon xs).length ≤ 100000 → ∀ w' cv' lv hs', Below lo w w' → w.heap.size ≤ w'.heap.size → OwnT w.heap.size w' cv' cols → OwnR lo w' lv hs' (relCanon xs) → R (.returned (.tuple #[.agg #[cv', lv], .int .i64 0])) w') :
    Calls Try.prog 70 #[cv, v] w R := by
  have Hbad := Lib.hid hbad
  have Hok := Lib.hid hok
  have Hcols := Lib.hid hcols
  have H := Lib.hid h
  obtain ⟨ac, cc, rfl, -, -, -, -⟩ := hcols.form
  obtain ⟨av, cv2, hv⟩ := Own.slice h.own
  clear hbad hok hcols h
  have hB0 := alloc_below w (.cells #[.slice none 0 0, .slice none 0 0] 34)
  have hb0 := Blk.new w [.slice none 0 0, .slice none 0 0] 34 rfl
  subst hv
  go_enter Try.func70, Try.ntmps70
  go_upto_region 1 with fail
  generalize w.alloc (.cells #[.slice none 0 0, .slice none 0 0] 34) = w0 at *
  have HB0 := Lib.hid hB0
  have Hb0 := Lib.hid hb0
  have hz0 := hB0.size
  have hb0l := hb0.lt
  have H0 := Lib.hid (H.out.kept hB0)
  clear hB0 hb0
  go_wp2_with fail
  have hapt : ∀ z, (Value.slice av hs.length cv2).ownBlock = some z → lo ≤ z ∧ z ≠ w.heap.size := fun z hz => by
    have := Own.lt H.out.own z hz
    omega
  have Hapt := Lib.hid hapt
  clear hapt
  refine sortRows_any lo _ hs xs w0 H0.out hlen _ (fun w1 hs1 xs1 hO1 h1 hp1 hup1 => ?_)
  have Hcan : Hid (compactL cmpR xs1 = relCanon xs) := Lib.hid (compact_canon cmpR_cmp hup1 (fun x => hp1.mem_iff))
  have hl1 : xs1.length ≤ 1000000000000 := by rw [hp1.length_eq]; exact hlen
  have HO1 := Lib.hid hO1
  have H1 := Lib.hid h1
  have hlen1 : hs1.length = hs.length := by
    obtain ⟨p, c, e⟩ := Own.slice h1.own
    injection e with _ e _
    exact e.symm
  clear hO1 h1 hp1 hup1
  go_wp2_with fail
  refine compact_any lo _ hs1 xs1 w1 H1.out hl1 _ (fun w2 v2 hs2 hO2 h2 => ?_)
  rw [Hcan.out] at h2
  have HO2 := Lib.hid (HO1.out.trans hO2)
  have hB2 : Below lo w w2 := (HB0.out.mono hlo).trans (HO2.out.below (by omega) (fun z hz => (Hapt.out z hz).1))
  have hb2 : Blk w2 w.heap.size [.slice none 0 0, .slice none 0 0] 34 := HO2.out.blk Hb0.out (fun e => (Hapt.out _ e).2 rfl)
  have HB2 := Lib.hid hB2
  have Hb2 := Lib.hid hb2
  have hz2 := HO2.out.size
  have H2 := Lib.hid h2
  have hlr := h2.len
  have hcan := canon_len_le xs
  obtain ⟨p2, c2, e2⟩ := Own.slice h2.own
  rw [hlr] at e2
  subst e2
  obtain ⟨d0, d1⟩ := hb2.cells.c2
  have f0 := hb2.free 0
  have f1 := hb2.free 1
  clear hO2 h2 hB2 hlr
  have Hrv2 := Lib.hid (((hb2.set 0 (.slice none 0 0)).set 1 (.slice none 0 0)).cells.runVar (P := Try.prog) (t := 34) (fun _ => by kernel_rfl) (fun _ => by kernel_rfl))
  have HBs := Lib.hid ((HB2.out.setCell (p := ⟨w.heap.size, 0, none⟩) hlo (.slice none 0 0)).setCell (p := ⟨w.heap.size, 1, none⟩) hlo (.slice none 0 0))
  clear hb2
  simp only [Nat.zero_add] at d1
  obtain ⟨m, hm⟩ : ∃ m, m = (relCanon xs).length := ⟨_, rfl⟩
  obtain ⟨q, hq⟩ : ∃ q, q = cols.length := ⟨_, rfl⟩
  rw [← hm, ← hq]
  have Hm := Lib.hid hm
  have Hq := Lib.hid hq
  clear hm hq hcan
  by_cases h32 : 32 < q
  · have c32 : (32 : Int) < (q : Int) := by omega
    have hr := Hbad.out (.inl (by rw [← Hq.out]; exact h32)) _ HBs.out (by simp; omega)
    have Hr := Lib.hid hr
    clear hr
    go_wp2_with fail
    exact ret_cell_tmp rfl rfl Hrv2.out rfl rfl Hr.out
  · have c32 : ¬ (32 : Int) < (q : Int) := by omega
    by_cases h10 : 100000 < m
    · have c10 : (100000 : Int) < (m : Int) := by omega
      have hr := Hbad.out (.inr (by rw [← Hm.out]; exact h10)) _ HBs.out (by simp; omega)
      have Hr := Lib.hid hr
      clear hr
      go_wp2_with fail
      exact ret_cell_tmp rfl rfl Hrv2.out rfl rfl Hr.out
    · have c10 : ¬ (100000 : Int) < (m : Int) := by omega
      clear Hrv2 HBs
      go_wp2_with fail
      rw [Hq.out]
      refine CloneStr_any lc hc cols _ w2 (Sl.below Hcols.out Strs.loc HB2.out hhc) (by omega) (by rw [← Hq.out]; omega) _ (fun w3 v3 hB3 ho3 => ?_)
      have hb3 := Hb2.out.below hB3 (by omega)
      have hrv := ((hb3.set 0 v3).set 1 (.slice p2 m c2)).cells.runVar (P := Try.prog) (t := 34) (fun _ => by kernel_rfl) (fun _ => by kernel_rfl)
      have h3 := H2.out.kept hB3
      have hT := (Own.setOther (Own.setOther ho3 (p := ⟨w.heap.size, 0, none⟩) (Own.ne_blk ho3 hb3 (by decide)) v3) (p := ⟨w.heap.size, 1, none⟩) (Own.ne_blk ho3 hb3 (by decide)) (.slice p2 m c2))
      have hR3 := (h3.setBlk hb3 (by decide) (by decide) 0 v3).setBlk (hb3.set 0 v3) (by decide) (by decide) 1 (.slice p2 m c2)
      have hB3' := ((HB2.out.trans (hB3.mono (by omega))).setCell (p := ⟨w.heap.size, 0, none⟩) hlo v3).setCell (p := ⟨w.heap.size, 1, none⟩) hlo (.slice p2 m c2)
      have hz3 := hB3.size
      have hr := Hok.out (by rw [← Hq.out]; omega) (by rw [← Hm.out]; omega) _ v3 _ hs2 hB3' (by simp; omega) (Own.lower hT (by omega)) hR3
      rw [← Hm.out] at hr
      obtain ⟨p3, c3, rfl⟩ := Own.slice ho3
      obtain ⟨d0, d1⟩ := hb3.cells.c2
      have f0 := hb3.free 0
      have f1 := hb3.free 1
      simp only [Nat.zero_add] at d1
      have Hr := Lib.hid hr
      have Hrv := Lib.hid hrv
      clear hb3 hrv h3 hT hR3 hB3' hr ho3 hB3
      go_wp2_with fail
      exact ret_cell_tmp rfl rfl Hrv.out rfl rfl Hr.out
end Go.Proofs.Ytpncblagjkbemaa
end

/- The relation of rows: Of. (Printed by rowg.py.) -/
section
set_option linter.unusedVariables false
set_option linter.unusedSimpArgs false
namespace Go.Proofs.Ytpncblagjkbemaa
open Go.RowKit
set_option linter.unusedVariables false
set_option linter.unusedSimpArgs false

set_option maxRecDepth 100000 in
set_option maxHeartbeats 4000000 in
theorem IndexFuncRow_any (lo hi : Nat) (l : List (List V)) (v : Value) (g : FuncId) (capt : Array Value) (p : List V → Bool) (w : World) (hv : Rws lo hi w v l) (hhi : hi ≤ w.heap.size)
    (he : ∀ args w, (callFunc g args).run Try.prog w = .ok (.enter g args) w)
    (hq : ∀ k (hk : k < l.length) xv w' R, Below w.heap.size w w' → Row1 lo hi w' xv l[k] → (∀ w'', Below w'.heap.size w' w'' → R (.returned (.bool (p l[k]))) w'') → Calls Try.prog g (#[xv] ++ capt) w' R)
    (R : Ending → World → Prop) (hR : ∀ w' i, Below w.heap.size w w' → (l.any p = decide (0 ≤ i)) → R (.returned (.int .i64 i)) w') : Calls Try.prog 111 #[v, .func (.func g) #[] capt] w R := by
  have HR := Lib.hid hR
  have Hv := Lib.hid hv
  have Hq := Lib.hid hq
  obtain ⟨av, cv, rfl, hcl, hcm, -, -⟩ := hv.form
  have hl63 := hv.len
  clear hR hv hq
  go_enter Try.func111, Try.ntmps111
  go_wp2_with fail
  go_loopw [8] (fun t8 wr => ∃ k : Nat, k ≤ l.length ∧ t8 = .int .i64 k ∧ (∀ i, i < k → p (l.getD i []) = false) ∧ Below w.heap.size w wr) (fun t8 _ => l.length - (intOf t8).toNat)
  case atStart => exact ⟨0, Nat.zero_le _, rfl, fun i h => absurd h (Nat.not_lt_zero _), Below.refl _ _⟩
  case round =>
    obtain ⟨k, hk, rfl, hno, hB⟩ := hrel
    obtain ⟨wo, ewo⟩ : ∃ x, x = wr := ⟨_, rfl⟩
    subst ewo
    have Hno := Lib.hid hno
    have HB := Lib.hid hB
    have hz := hB.size
    have kk0 : (0 : Int) ≤ (k : Int) := by omega
    clear hno hB
    by_cases hlt : k < l.length
    · obtain ⟨ao', cap', e', -, -, -, hc⟩ := (Sl.below Hv.out rowE_loc HB.out hhi).form
      injection e' with e1 e2 e3
      subst e1 e3
      obtain ⟨b, off, rfl, hb1, hb2, hcc⟩ := hc k hlt
      obtain ⟨cs, _, hcs, sv, rfl, hsv⟩ := hcc k hlt
      have g0 := hcs.c1
      rw [Nat.mul_one] at g0
      have kkl : (k : Int) < (l.length : Int) := by omega
      have Hsv := Lib.hid hsv
      have Hx : Hid (l.getD k [] = l[k]) := Lib.hid (getDS l _ k hlt)
      have hslv := hsv
      obtain ⟨ax, cx, rfl, -, -, -, -⟩ := hslv.form
      clear hcc hcs hc hsv hslv
      have Hq1 := Lib.hid (Hq.out k hlt)
      have Hany : Hid (p l[k] = true → l.any p = true) := Lib.hid (fun h => by rw [List.any_eq_true]; exact ⟨l[k], List.getElem_mem hlt, h⟩)
      generalize l[k] = x at *
      go_wp2_with fail
      refine Hq1.out _ wo _ HB.out Hsv.out (fun w2 hB2 => ?_)
      have HB2 := Lib.hid (HB.out.trans (hB2.mono hz))
      clear hB2
      cases hp : p x
      · have Hp := Lib.hid hp
        clear hp
        go_wp2_with fail
        go_roundw
        case rel => exact ⟨k + 1, by omega, by go_num, fun i hi => by
          by_cases e : i = k
          · subst e; rw [Hx.out]; exact Hp.out
          · exact Hno.out i (by omega), HB2.out⟩
        case measure => simp [intOf]; omega
      · have hr := HR.out w2 k HB2.out (by rw [Hany.out hp]; simp)
        clear hp
        go_wp2_with fail
        first | exact hr | exact fin hr rfl
    · obtain rfl : k = l.length := by omega
      have hr := HR.out wo (-1) HB.out (by
        have : l.any p = false := by
          rw [List.any_eq_false]
          intro x hx
          obtain ⟨i, hi, rfl⟩ := List.getElem_of_mem hx
          have := Hno.out i hi
          rw [getDS l _ i hi] at this
          simp [this]
        rw [this]; rfl)
      go_wp2_with fail
      first | exact hr | exact fin hr rfl
set_option maxRecDepth 100000 in
set_option maxHeartbeats 4000000 in
theorem ContainsFuncRow_any (lo hi : Nat) (l : List (List V)) (v : Value) (g : FuncId) (capt : Array Value) (p : List V → Bool) (w : World) (hv : Rws lo hi w v l) (hhi : hi ≤ w.heap.size)
    (he : ∀ args w, (callFunc g args).run Try.prog w = .ok (.enter g args) w)
    (hq : ∀ k (hk : k < l.length) xv w' R, Below w.heap.size w w' → Row1 lo hi w' xv l[k] → (∀ w'', Below w'.heap.size w' w'' → R (.returned (.bool (p l[k]))) w'') → Calls Try.prog g (#[xv] ++ capt) w' R)
    (R : Ending → World → Prop) (hR : ∀ w', Below w.heap.size w w' → R (.returned (.bool (l.any p))) w') : Calls Try.prog 68 #[v, .func (.func g) #[] capt] w R := by
  have HR := Lib.hid hR
  have Hv := Lib.hid hv
  have Hq := Lib.hid hq
  have He := Lib.hid he
  obtain ⟨av, cv, rfl, -, -, -, -⟩ := hv.form
  clear hR hv hq he
  go_enter Try.func68, Try.ntmps68
  go_wp2_with fail
  refine IndexFuncRow_any lo hi l _ g capt p w Hv.out hhi He.out Hq.out _ (fun w2 i hB2 hi => ?_)
  have hr := HR.out w2 hB2
  rw [hi] at hr
  clear hi hB2
  go_wp2_with fail
  first | exact hr | exact fin hr rfl
set_option maxRecDepth 100000 in
theorem Of1_any (x : List V) (cols : List S) (ax ac : Option Addr) (cx cc b : Nat) (w : World) (hb : Blk w b [.slice ac cols.length cc] 31) (R : Ending → World → Prop) (hR : R (.returned (.bool (x.length != cols.length))) w) :
    Calls Try.prog 69 #[.slice ax x.length cx, .pointer (some ⟨b, 0, none⟩)] w R := by
  have c0 := hb.cells.c1
  clear hb
  go_enter Try.func69, Try.ntmps69
  go_wp2_with fail
  exact fin hR (by congr 1; rw [Bool.eq_iff_iff]; simp; omega)
/-- May columns and rows be a relation's? -/
def fitB (cols : List S) (l : List (List V)) : Bool := onceB cols && !(l.any fun x => x.length != cols.length)
def ofErr (cols : List S) (l : List (List V)) : Int := if fitB cols l then (if 100000 < (relCanon l).length then 140 else 0) else 2
theorem once_len {cols : List S} (h : onceB cols = true) : cols.length ≤ 32 := by
  rcases Nat.lt_or_ge 32 cols.length with h2 | h2
  · unfold onceB at h
    rw [List.all_eq_true] at h
    have := h 32 (List.mem_range.2 h2)
    simp [onceAt] at this
  · exact h2
theorem gather_own (l : List (List V)) : l.filterMap some = l := List.filterMap_some
set_option maxRecDepth 100000 in
set_option maxHeartbeats 4000000 in
theorem Of_any (lo hi lc hc : Nat) (cols : List S) (l : List (List V)) (cv' lv : Value) (w : World) (hcols : Strs lc hc w cv' cols) (hv : Rws lo hi w lv l) (hhi : hi ≤ w.heap.size) (hhc : hc ≤ w.heap.size) (hlen1 : l.length ≤ 1000000000000) (hrl : ∀ x ∈ l, x.length ≤ 4000000000000) (R : Ending → World → Prop)
    (hbad : ofErr cols l ≠ 0 → ∀ w', Below w.heap.size w w' → R (.returned (.tuple #[.agg #[.slice none 0 0, .slice none 0 0], .int .i64 (ofErr cols l)])) w')
    (hok : ofErr cols l = 0 → ∀ w' cv2 lv2 hs, Below w.heap.size w w' → OwnT w.heap.size w' cv2 cols → OwnR w.heap.size w' lv2 hs (relCanon l) → R (.returned (.tuple #[.agg #[cv2, lv2], .int .i64 0])) w') :
    Calls Try.prog 26 #[cv', lv] w R := by
  have Hbad := Lib.hid hbad
  have Hok := Lib.hid hok
  have Hc := Lib.hid hcols
  have Hv := Lib.hid hv
  have Hrl := Lib.hid hrl
  obtain ⟨ac, cc, rfl, -, -, -, -⟩ := hcols.form
  obtain ⟨av, cv, rfl, -, -, -, -⟩ := hv.form
  have hlen2 : l.length ≤ 5000000000000 := by omega
  clear hbad hok hcols hv hrl
  have hB1 := alloc_below w (.cells #[.slice ac cols.length cc] 31)
  have hb1 := Blk.new w [.slice ac cols.length cc] 31 rfl
  have hs1 : (w.alloc (.cells #[.slice ac cols.length cc] 31)).heap.size = w.heap.size + 1 := by simp
  have hB2 := alloc_below (w.alloc (.cells #[.slice ac cols.length cc] 31)) (.cells #[.slice none 0 0, .slice none 0 0] 34)
  have hb2 := Blk.new (w.alloc (.cells #[.slice ac cols.length cc] 31)) [.slice none 0 0, .slice none 0 0] 34 hs1.symm
  have hb12 := hb1.below hB2 hb1.lt
  have hB := hB1.trans (hB2.mono hB1.size)
  go_enter Try.func26, Try.ntmps26
  go_upto_region 1 with fail
  generalize (w.alloc (.cells #[.slice ac cols.length cc] 31)).alloc (.cells #[.slice none 0 0, .slice none 0 0] 34) = w2 at *
  have HB := Lib.hid hB
  have Hb1 := Lib.hid hb12
  have Hb2 := Lib.hid hb2
  have hz2 := hB.size
  have hl1 := hb12.lt
  have hl2 := hb2.lt
  have c0 := hb12.cells.c1
  obtain ⟨d0, d1⟩ := hb2.cells.c2
  have f0 := hb2.free 0
  have f1 := hb2.free 1
  simp only [Nat.zero_add] at d1
  have Hrvn := Lib.hid (((hb2.set 0 (.slice none 0 0)).set 1 (.slice none 0 0)).cells.runVar (P := Try.prog) (t := 34) (fun _ => by kernel_rfl) (fun _ => by kernel_rfl))
  clear hB1 hb1 hs1 hB2 hb2 hb12 hB
  go_wp2_with fail
  refine once_any lc hc cols _ w2 (Sl.below Hc.out Strs.loc HB.out hhc) _ ?_
  cases honce : onceB cols
  · have he : ofErr cols l = 2 := by unfold ofErr fitB; rw [honce]; rfl
    have hr := Hbad.out (by rw [he]; decide) _ ((HB.out.setCell (p := ⟨w.heap.size + 1, 0, none⟩) (Nat.le_succ _) (.slice none 0 0)).setCell (p := ⟨w.heap.size + 1, 1, none⟩) (Nat.le_succ _) (.slice none 0 0))
    rw [he] at hr
    have Hr := Lib.hid hr
    clear honce he hr
    go_wp2_with fail
    exact ret_cell_tmp rfl rfl Hrvn.out rfl rfl Hr.out
  · have Hon := Lib.hid honce
    clear honce
    clear d0 d1 f0 f1
    go_wp2_with fail
    refine ContainsFuncRow_any lo hi l _ 69 #[.pointer (some ⟨w.heap.size, 0, none⟩)] (fun x => x.length != cols.length) w2 (Sl.below Hv.out rowE_loc HB.out hhi) (by omega) (enters_of Try.func69 (by kernel_rfl) rfl) (fun k hk xv w' R' hB' hx' hR' => ?_) _ (fun w3 hB3 => ?_)
    · obtain ⟨ax, cx, rfl, -, -, -, -⟩ := hx'.form
      exact Of1_any l[k] cols ax ac cx cc w.heap.size w' (Hb1.out.below hB' hl1) R' (hR' w' (Below.refl _ _))
    have HB3 := Lib.hid (HB.out.trans (hB3.mono hz2))
    have hb3 := Hb2.out.below hB3 hl2
    have hb13 := Hb1.out.below hB3 hl1
    have hz3 := HB3.out.size
    have hz23 := hB3.size
    clear hB3
    cases hany : l.any (fun x => x.length != cols.length)
    · have hfit : fitB cols l = true := by unfold fitB; rw [Hon.out, hany]; rfl
      have Hfit := Lib.hid hfit
      have c0 := hb13.cells.c1
      have hbw : w.heap.size < w3.heap.size := by omega
      have hhi3 : hi ≤ w3.heap.size := by omega
      have HB3d := Lib.hid (HB3.out.drew)
      have Hb3 := Lib.hid hb3
      clear hany hfit hb3 hb13
      go_upto_region 3 with fail
      have hS0 : Only (fun z => z = w.heap.size + 1) w3 w3.drew := Only.drew _
      refine wp_region_held_drew (S := fun w' => Only (fun z => z = w.heap.size + 1) w3 w') (by kernel_rfl) hS0 (fun hHeld => ?_)
      refine wpAnyH_take (i := 0) (v := .slice ac cols.length cc) rfl (by kernel_rfl) (by kernel_rfl) (by kernel_rfl) (fun _ _ _ h => h) (Or.inl ⟨by rfl, ?_⟩) hHeld ?_
      · intro w' hSw; have kx := (World.cell?_of_block (hSw.block w.heap.size hbw (by omega))).trans c0; go_simp
      try simp only [Act.put, List.getElem_toArray, List.getElem_cons_succ, List.getElem_cons_zero, List.setIfInBounds_toArray, List.set_cons_zero, List.set_cons_succ]
      refine wpAnyH_take (i := 1) (v := .slice av l.length cv) rfl (by kernel_rfl) (by kernel_rfl) (by kernel_rfl) (fun _ _ _ h => h) (Or.inl ⟨by rfl, ?_⟩) hHeld ?_
      · intro w' hSw; go_simp
      try simp only [Act.put, List.getElem_toArray, List.getElem_cons_succ, List.getElem_cons_zero, List.setIfInBounds_toArray, List.set_cons_zero, List.set_cons_succ]
      refine wpAnyH_ready (rs := [2]) (by kernel_rfl) (by simp) ?_
      refine allCall (f := 71) (args := #[.slice av l.length cv, .func (.func 72) #[] #[]]) rfl (by kernel_rfl) (by kernel_rfl) ?_ AllReadyH.nil
      refine gather_any lo hi l _ 72 #[] some w3.drew (Sl.below Hv.out rowE_loc HB3d.out hhi) (by exact hhi3) hlen2 (enters_of Try.func72 (by kernel_rfl) rfl) (fun k hk xv w' R' hB' hx' hR' => ?_) _ (fun w4 v4 hs4 hB4 h4 => ?_)
      · refine own_any lo hi l[k] xv w' hx' (Nat.le_trans hhi3 hB'.size) (Hrl.out _ (List.getElem_mem hk)) R' (fun w'' yv hB'' ho'' => ?_)
        obtain ⟨a, c, e⟩ := Own.slice ho''
        exact hR' w'' yv hB'' (fun _ => ho'') ⟨a, _, c, e⟩
      rw [gather_own] at h4
      have HB4 := Lib.hid hB4
      have H4 := Lib.hid h4
      refine ⟨_, rfl, hS0.trans (Below.only hB4), ?_⟩
      obtain ⟨p4, c4, e4⟩ := Own.slice h4.own
      have hl4 := h4.len
      rw [hl4] at e4
      subst e4
      clear hB4 h4 hHeld
      have hHeld := hS0.trans (Below.only (A := fun z => z = w.heap.size + 1) HB4.out)
      try simp only [Act.put, List.getElem_toArray, List.getElem_cons_succ, List.getElem_cons_zero, List.setIfInBounds_toArray, List.set_cons_zero, List.set_cons_succ]
      refine wpAnyH_ready (rs := [3]) (by kernel_rfl) (by simp) ?_
      refine allCall (f := 70) (args := #[.slice ac cols.length cc, .slice p4 l.length c4]) rfl (by kernel_rfl) (by kernel_rfl) ?_ AllReadyH.nil
      have hO34 : Only (fun z => z = w.heap.size + 1) w3 w4 := hHeld
      have hz4 : w3.heap.size ≤ w4.heap.size := HB4.out.size
      refine made_any w3.heap.size lc hc cols _ l hs4 _ w4 (Sl.below Hc.out Strs.loc ((HB3.out.trans ((Below.refl w.heap.size w3).drew)).trans (HB4.out.mono hz3)) hhc) (by omega) hz4 H4.out hlen1 _ (fun hbad w5 hB5 hz5 => ?_) (fun hok1 hok2 w5 cv5 lv5 hs5 hB5 hz5 hT5 hR5 => ?_)
      · have hB35 : Below w3.heap.size w3 w5 := (((Below.refl w3.heap.size w3).drew).trans HB4.out).trans hB5
        have hS5 := Below.only (A := fun z => z = w.heap.size + 1) hB35
        refine ⟨_, rfl, hS5, ?_⟩
        have hb5 := Hb3.out.below hB35 (by omega)
        obtain ⟨d0, d1⟩ := hb5.cells.c2
        have f0 := hb5.free 0
        have f1 := hb5.free 1
        simp only [Nat.zero_add] at d1
        have Hrv := Lib.hid (((hb5.set 0 (.slice none 0 0)).set 1 (.slice none 0 0)).cells.runVar (P := Try.prog) (t := 34) (fun _ => by kernel_rfl) (fun _ => by kernel_rfl))
        have he : ofErr cols l = 140 := by
          unfold ofErr
          rw [if_pos Hfit.out, if_pos (by rcases hbad with h | h; · have := once_len Hon.out; omega
                                          · exact h)]
        have hr := Hbad.out (by rw [he]; decide) _ (((HB3.out.trans (hB35.mono hz3)).setCell (p := ⟨w.heap.size + 1, 0, none⟩) (Nat.le_succ _) (.slice none 0 0)).setCell (p := ⟨w.heap.size + 1, 1, none⟩) (Nat.le_succ _) (.slice none 0 0))
        rw [he] at hr
        have Hr := Lib.hid hr
        clear hHeld he hr hb5
        have hHeld := hS5
        try simp only [Act.put, List.getElem_toArray, List.getElem_cons_succ, List.getElem_cons_zero, List.setIfInBounds_toArray, List.set_cons_zero, List.set_cons_succ]
        refine wpAnyH_take (i := 4) (v := .agg #[.slice none 0 0, .slice none 0 0]) rfl (by kernel_rfl) (by kernel_rfl) (by kernel_rfl) (fun _ _ _ h => h) (Or.inl ⟨by rfl, ?_⟩) hHeld ?_
        · intro w' hSw; go_simp
        try simp only [Act.put, List.getElem_toArray, List.getElem_cons_succ, List.getElem_cons_zero, List.setIfInBounds_toArray, List.set_cons_zero, List.set_cons_succ]
        refine wpAnyH_take (i := 5) (v := .int .i64 140) rfl (by kernel_rfl) (by kernel_rfl) (by kernel_rfl) (fun _ _ _ h => h) (Or.inl ⟨by rfl, ?_⟩) hHeld ?_
        · intro w' hSw; go_simp
        try simp only [Act.put, List.getElem_toArray, List.getElem_cons_succ, List.getElem_cons_zero, List.setIfInBounds_toArray, List.set_cons_zero, List.set_cons_succ]
        refine wpAnyH_ready (rs := [6]) (by kernel_rfl) (by simp) ?_
        refine allSkip (w' := (w5.setCell ⟨w.heap.size + 1, 0, none⟩ (.slice none 0 0)).setCell ⟨w.heap.size + 1, 1, none⟩ (.slice none 0 0)) rfl (by kernel_rfl) ?_ ((hHeld.trans (Only.setCell (A := fun z => z = w.heap.size + 1) w5 (p := ⟨w.heap.size + 1, 0, none⟩) rfl _)).trans (Only.setCell (A := fun z => z = w.heap.size + 1) _ (p := ⟨w.heap.size + 1, 1, none⟩) rfl _)) ?_ AllReadyH.nil
        · go_simp
        try simp only [Act.put, List.getElem_toArray, List.getElem_cons_succ, List.getElem_cons_zero, List.setIfInBounds_toArray, List.set_cons_zero, List.set_cons_succ]
        have hHeld2 := ((hHeld.trans (Only.setCell (A := fun z => z = w.heap.size + 1) w5 (p := ⟨w.heap.size + 1, 0, none⟩) rfl (.slice none 0 0))).trans (Only.setCell (A := fun z => z = w.heap.size + 1) _ (p := ⟨w.heap.size + 1, 1, none⟩) rfl (.slice none 0 0)))
        clear hHeld
        have hHeld := hHeld2
        refine wpAnyH_take (i := 7) (v := .int .i64 140) rfl (by kernel_rfl) (by kernel_rfl) (by kernel_rfl) (fun _ _ _ h => h) (Or.inl ⟨by rfl, ?_⟩) hHeld ?_
        · intro w' hSw; go_simp
        try simp only [Act.put, List.getElem_toArray, List.getElem_cons_succ, List.getElem_cons_zero, List.setIfInBounds_toArray, List.set_cons_zero, List.set_cons_succ]
        refine wpAnyH_done (by kernel_rfl) ?_ _
        clear hHeld
        go_wp2_with fail
        exact ret_cell_tmp rfl rfl Hrv.out rfl rfl Hr.out
      · have hB35 : Below w3.heap.size w3 w5 := (((Below.refl w3.heap.size w3).drew).trans HB4.out).trans hB5
        have hS5 := Below.only (A := fun z => z = w.heap.size + 1) hB35
        refine ⟨_, rfl, hS5, ?_⟩
        have hb5 := Hb3.out.below hB35 (by omega)
        obtain ⟨d0, d1⟩ := hb5.cells.c2
        have f0 := hb5.free 0
        have f1 := hb5.free 1
        simp only [Nat.zero_add] at d1
        obtain ⟨pc, qc, ec⟩ := Own.slice hT5
        obtain ⟨pr, qr, er⟩ := Own.slice hR5.own
        obtain ⟨ln, hln⟩ : ∃ ln, ln = hs5.length := ⟨_, rfl⟩
        rw [← hln] at er
        subst ec er
        have Hrv := Lib.hid (((hb5.set 0 (.slice pc cols.length qc)).set 1 (.slice pr ln qr)).cells.runVar (P := Try.prog) (t := 34) (fun _ => by kernel_rfl) (fun _ => by kernel_rfl))
        have he : ofErr cols l = 0 := by
          unfold ofErr
          rw [if_pos Hfit.out, if_neg (by omega)]
        have hz4' := hB5.size
        have hT6 := Own.setOther (Own.setOther (Own.lower hT5 (show w.heap.size ≤ w4.heap.size by omega)) (p := ⟨w.heap.size + 1, 0, none⟩) (Own.ne_blk hT5 hb5 (by decide)) (.slice pc cols.length qc)) (p := ⟨w.heap.size + 1, 1, none⟩) (Own.ne_blk hT5 hb5 (by decide)) (.slice pr ln qr)
        have hR6 := ((hR5.lower hz3).setBlk hb5 (by decide) (by decide) 0 (.slice pc cols.length qc)).setBlk (hb5.set 0 (.slice pc cols.length qc)) (by decide) (by decide) 1 (.slice pr ln qr)
        have hr := Hok.out he _ _ _ _ (((HB3.out.trans (hB35.mono hz3)).setCell (p := ⟨w.heap.size + 1, 0, none⟩) (Nat.le_succ _) (.slice pc cols.length qc)).setCell (p := ⟨w.heap.size + 1, 1, none⟩) (Nat.le_succ _) (.slice pr ln qr)) hT6 hR6
        have Hr := Lib.hid hr
        clear hHeld he hr hb5 hT6 hR6 hT5 hR5 hln
        have hHeld := hS5
        try simp only [Act.put, List.getElem_toArray, List.getElem_cons_succ, List.getElem_cons_zero, List.setIfInBounds_toArray, List.set_cons_zero, List.set_cons_succ]
        refine wpAnyH_take (i := 4) (v := .agg #[.slice pc cols.length qc, .slice pr ln qr]) rfl (by kernel_rfl) (by kernel_rfl) (by kernel_rfl) (fun _ _ _ h => h) (Or.inl ⟨by rfl, ?_⟩) hHeld ?_
        · intro w' hSw; go_simp
        try simp only [Act.put, List.getElem_toArray, List.getElem_cons_succ, List.getElem_cons_zero, List.setIfInBounds_toArray, List.set_cons_zero, List.set_cons_succ]
        refine wpAnyH_take (i := 5) (v := .int .i64 0) rfl (by kernel_rfl) (by kernel_rfl) (by kernel_rfl) (fun _ _ _ h => h) (Or.inl ⟨by rfl, ?_⟩) hHeld ?_
        · intro w' hSw; go_simp
        try simp only [Act.put, List.getElem_toArray, List.getElem_cons_succ, List.getElem_cons_zero, List.setIfInBounds_toArray, List.set_cons_zero, List.set_cons_succ]
        refine wpAnyH_ready (rs := [6]) (by kernel_rfl) (by simp) ?_
        refine allSkip (w' := (w5.setCell ⟨w.heap.size + 1, 0, none⟩ (.slice pc cols.length qc)).setCell ⟨w.heap.size + 1, 1, none⟩ (.slice pr ln qr)) rfl (by kernel_rfl) ?_ ((hHeld.trans (Only.setCell (A := fun z => z = w.heap.size + 1) w5 (p := ⟨w.heap.size + 1, 0, none⟩) rfl _)).trans (Only.setCell (A := fun z => z = w.heap.size + 1) _ (p := ⟨w.heap.size + 1, 1, none⟩) rfl _)) ?_ AllReadyH.nil
        · go_simp
        try simp only [Act.put, List.getElem_toArray, List.getElem_cons_succ, List.getElem_cons_zero, List.setIfInBounds_toArray, List.set_cons_zero, List.set_cons_succ]
        have hHeld2 := ((hHeld.trans (Only.setCell (A := fun z => z = w.heap.size + 1) w5 (p := ⟨w.heap.size + 1, 0, none⟩) rfl (.slice pc cols.length qc))).trans (Only.setCell (A := fun z => z = w.heap.size + 1) _ (p := ⟨w.heap.size + 1, 1, none⟩) rfl (.slice pr ln qr)))
        clear hHeld
        have hHeld := hHeld2
        refine wpAnyH_take (i := 7) (v := .int .i64 0) rfl (by kernel_rfl) (by kernel_rfl) (by kernel_rfl) (fun _ _ _ h => h) (Or.inl ⟨by rfl, ?_⟩) hHeld ?_
        · intro w' hSw; go_simp
        try simp only [Act.put, List.getElem_toArray, List.getElem_cons_succ, List.getElem_cons_zero, List.setIfInBounds_toArray, List.set_cons_zero, List.set_cons_succ]
        refine wpAnyH_done (by kernel_rfl) ?_ _
        clear hHeld
        go_wp2_with fail
        exact ret_cell_tmp rfl rfl Hrv.out rfl rfl Hr.out
    · have he : ofErr cols l = 2 := by unfold ofErr fitB; rw [hany]; simp
      obtain ⟨d0, d1⟩ := hb3.cells.c2
      have f0 := hb3.free 0
      have f1 := hb3.free 1
      simp only [Nat.zero_add] at d1
      have Hrv := Lib.hid (((hb3.set 0 (.slice none 0 0)).set 1 (.slice none 0 0)).cells.runVar (P := Try.prog) (t := 34) (fun _ => by kernel_rfl) (fun _ => by kernel_rfl))
      have hr := Hbad.out (by rw [he]; decide) _ ((HB3.out.setCell (p := ⟨w.heap.size + 1, 0, none⟩) (Nat.le_succ _) (.slice none 0 0)).setCell (p := ⟨w.heap.size + 1, 1, none⟩) (Nat.le_succ _) (.slice none 0 0))
      rw [he] at hr
      have Hr := Lib.hid hr
      clear hany he hr hb3 hb13
      go_wp2_with fail
      exact ret_cell_tmp rfl rfl Hrv.out rfl rfl Hr.out
end Go.Proofs.Ytpncblagjkbemaa
end

/- The document's rows: put. -/
section
set_option linter.unusedVariables false
set_option linter.unusedSimpArgs false
namespace Go.Proofs.Ytpncblagjkbemaa
open Go.RowKit
set_option linter.unusedVariables false
set_option linter.unusedSimpArgs false

/-- A row's header. -/
structure HD where
  a : Option Addr
  n : Nat
  c : Nat
  deriving Inhabited
def HD.v (h : HD) : Value := .slice h.a h.n h.c
def HD.enc (h : HD) : List Value := [.slice h.a h.n h.c]
theorem HD.one : ∀ x : HD, ∀ u ∈ HD.enc x, u.oneCell' = true := fun x u hu => by
  simp only [HD.enc, List.mem_cons, List.not_mem_nil, or_false] at hu
  subst hu; rfl
abbrev OwnHD := Own HD.enc 42 1
theorem rws_raw {lo hi : Nat} {w : World} {v : Value} {xs : List (List V)} (h : Rws lo hi w v xs) : ∃ hs : List HD, hs.length = xs.length ∧ Sl (flat HD.enc) 1 lo hi w v hs ∧ ∀ i (h1 : i < hs.length) (h2 : i < xs.length), Row1 lo hi w hs[i].v xs[i] := by
  obtain ⟨ao, cap, hv, hle, hcm, hn, hc⟩ := h.form
  by_cases hx : xs = []
  · subst hx
    exact ⟨[], rfl, ⟨ao, cap, hv, hle, by simpa [maxLen] using hcm, hn, fun hne => absurd rfl hne⟩, fun i h1 => absurd h1 (Nat.not_lt_zero _)⟩
  · have h0 : 0 < xs.length := by
      cases xs with
      | nil => exact absurd rfl hx
      | cons a r => simp
    obtain ⟨b, off, rfl, hb1, hb2, hcc⟩ := hc 0 h0
    have hi' : ∀ i, i < xs.length → ∃ p : HD, CellsAt w b (off + i * 1) p.enc ∧ Row1 lo hi w p.v (xs.getD i []) := by
      intro i hil
      obtain ⟨cs, hl, hcs, sv, rfl, hsv⟩ := hcc i hil
      have hsv' := hsv
      obtain ⟨sa, sc, hsl, -, -, -, -⟩ := hsv'.form
      subst hsl
      exact ⟨⟨sa, xs[i].length, sc⟩, hcs, by rw [getDS xs [] i hil]; exact hsv⟩
    obtain ⟨F, hF⟩ := Deep.choose_lt hi'
    have hlen : ((List.range xs.length).map F).length = xs.length := by simp
    refine ⟨(List.range xs.length).map F, hlen, ⟨some ⟨b, off, none⟩, cap, by rw [hlen]; exact hv, by rw [hlen]; exact hle, by simpa [maxLen] using hcm, hn, fun _ => ⟨b, off, rfl, hb1, hb2, fun k hk => ?_⟩⟩, fun i h1 h2 => ?_⟩
    · rw [hlen] at hk
      exact ⟨_, rfl, by simpa using (hF k hk).1, by simp [flat]⟩
    · simp only [List.getElem_map, List.getElem_range]
      have := (hF i h2).2
      rwa [getDS xs [] i h2] at this
/-- Rows of which the headers are a call's own; their values lie where they may, but not among the headers. -/
def LR (lo rl : Nat) (w : World) (v : Value) (xs : List (List V)) : Prop :=
  ∃ hs : List HD, hs.length = xs.length ∧ OwnHD lo w v hs ∧ ∀ i (h1 : i < hs.length) (h2 : i < xs.length), ∃ a b, rl ≤ a ∧ Row1 a b w hs[i].v xs[i] ∧ b ≤ w.heap.size ∧ ∀ k, v.ownBlock = some k → k < a ∨ b ≤ k
theorem infoHD : (Try.prog.info? 42).map (fun i => (i.zero, i.size, i.bytes)) = some (some (.slice none 0 0), 1, 24) := infoH
theorem LR.nil (lo rl : Nat) (w : World) : LR lo rl w (.slice none 0 0) [] := ⟨[], rfl, Own.nil _ _ _ _ _, fun i h => absurd h (Nat.not_lt_zero _)⟩
theorem LR.slice {lo rl : Nat} {w : World} {v : Value} {xs : List (List V)} (h : LR lo rl w v xs) : ∃ p c, v = .slice p xs.length c := by
  obtain ⟨hs, hl, ho, -⟩ := h
  obtain ⟨p, c, e⟩ := Own.slice ho
  exact ⟨p, c, by rw [e, hl]⟩
theorem LR.rws {lo rl : Nat} {w : World} {v : Value} {xs : List (List V)} (h : LR lo rl w v xs) (hrl : rl ≤ lo) : Rws rl w.heap.size w v xs := by
  obtain ⟨hs, hl, ho, hr⟩ := h
  have hsl : Sl (flat HD.enc) 1 lo w.heap.size w v hs := Sl.ofOwn (fun _ => rfl) ho
  obtain ⟨ao, cap, hv, hle, hcm, hn, hc⟩ := hsl.form
  refine ⟨ao, cap, by rw [hv, hl], by rw [← hl]; exact hle, by simpa [maxLen] using hcm, hn, fun hne => ?_⟩
  have h0 : 0 < hs.length := by
    rw [hl]
    cases xs with
    | nil => exact absurd rfl hne
    | cons a r => simp
  obtain ⟨b, off, rfl, hb1, hb2, hcc⟩ := hc 0 h0
  refine ⟨b, off, rfl, Nat.le_trans hrl hb1, hb2, fun k hk => ?_⟩
  have hk' : k < hs.length := by rw [hl]; exact hk
  obtain ⟨cs, hcl, hcs, rfl⟩ := hcc k hk'
  obtain ⟨a, b', hra, hsp, hb', -⟩ := hr k hk' hk
  exact ⟨_, hcl, hcs, hs[k].v, rfl, hsp.mono Row1.loc hra hb'⟩
theorem LR.kept {lo rl : Nat} {w w' : World} {v : Value} {xs : List (List V)} (h : LR lo rl w v xs) (hB : Below w.heap.size w w') : LR lo rl w' v xs := by
  obtain ⟨hs, hl, ho, hr⟩ := h
  exact ⟨hs, hl, Own.kept ho hB, fun i h1 h2 => by
    obtain ⟨a, b, e0, e1, e2, e3⟩ := hr i h1 h2
    exact ⟨a, b, e0, e1.below Row1.loc hB e2, Nat.le_trans e2 hB.size, e3⟩⟩
theorem LR.lower {lo lo' rl : Nat} {w : World} {v : Value} {xs : List (List V)} (h : LR lo rl w v xs) (hl' : lo' ≤ lo) : LR lo' rl w v xs := by
  obtain ⟨hs, hl, ho, hr⟩ := h
  exact ⟨hs, hl, Own.lower ho hl', hr⟩
theorem LR.lt {lo rl : Nat} {w : World} {v : Value} {xs : List (List V)} (h : LR lo rl w v xs) : ∀ k, v.ownBlock = some k → lo ≤ k ∧ k < w.heap.size := by
  obtain ⟨hs, hl, ho, hr⟩ := h
  exact Own.lt ho
/-- Rows more. -/
theorem LR.app {lo rl a0 b0 : Nat} {w : World} {v x : Value} {xs ys : List (List V)} (h : LR lo rl w v xs) (hx : Rws a0 b0 w x ys) (hra : rl ≤ a0) (hb0 : b0 ≤ w.heap.size) (ha0 : ∀ k, v.ownBlock = some k → k < a0 ∨ b0 ≤ k) (hb : xs.length + ys.length ≤ 5000000000000) (hlo : lo ≤ w.heap.size) :
    ∃ v' w', (Builtin.append_ #[32, 32] 32 #[v, x]).run Try.prog w = .ok v' w' ∧ LR lo rl w' v' (xs ++ ys) ∧ Appended w v w' v' := by
  obtain ⟨hs, hl, ho, hr⟩ := h
  obtain ⟨qs, hql, hq, hqr⟩ := rws_raw hx
  obtain ⟨i0, hi, hz0, hz1, hz2⟩ := info_parts infoHD
  obtain ⟨v', w', hrun, ho', hap⟩ := Own.app ho _ _ _ i0 _ 24 Try.underlying32 hi hz0 hz1 hz2 rfl (Src.ofSl hq (fun _ => rfl) HD.one Try.underlying32) (by omega) (by omega) hlo
  refine ⟨v', w', hrun, ⟨hs ++ qs, by simp [hl, hql], ho', fun i h1 h2 => ?_⟩, hap⟩
  have key : ∀ {a b : Nat} {u : Value} {l : List V}, rl ≤ a → Row1 a b w u l → b ≤ w.heap.size → (∀ k, v.ownBlock = some k → k < a ∨ b ≤ k) → ∃ a b, rl ≤ a ∧ Row1 a b w' u l ∧ b ≤ w'.heap.size ∧ ∀ k, v'.ownBlock = some k → k < a ∨ b ≤ k := by
    intro a b u l e0 e1 e2 e3
    refine ⟨a, b, e0, e1.agree Row1.loc (hap.agree e2 e3), Nat.le_trans e2 hap.grown.size, fun k hk => ?_⟩
    rcases hap.moved with e | ⟨m, e, hm⟩
    · rw [e] at hk; exact e3 k hk
    · rw [e] at hk; injection hk with hk; omega
  by_cases hi2 : i < hs.length
  · rw [List.getElem_append_left hi2, List.getElem_append_left (by omega)]
    obtain ⟨a, b, e0, e1, e2, e3⟩ := hr i hi2 (by omega)
    exact key e0 e1 e2 e3
  · rw [List.getElem_append_right (by omega), List.getElem_append_right (by omega)]
    have e : i - hs.length = i - xs.length := by omega
    have hlt : i - hs.length < qs.length := by rw [List.length_append] at h1; omega
    have := hqr (i - hs.length) hlt (by omega)
    simp only [e] at this ⊢
    exact key hra this hb0 ha0
end Go.Proofs.Ytpncblagjkbemaa
end

/- The document's rows: put. -/
section
set_option linter.unusedVariables false
set_option linter.unusedSimpArgs false
namespace Go.Proofs.Ytpncblagjkbemaa
open Go.RowKit
set_option linter.unusedVariables false
set_option linter.unusedSimpArgs false

theorem insR_at {α : Type} {c : α → α → Int} (h : Cmp c) (x : α) : ∀ (l : List α) (a : Nat), a ≤ l.length → (∀ j (hj : j < l.length), a ≤ j → c x l[j] < 0) → (∀ j (hj : j < l.length), j < a → c l[j] x < 0) → insR c x l = (l.take a ++ [x]) ++ l.drop a
  | [], a, h1, _, _ => by
    obtain rfl : a = 0 := by simpa using h1
    rfl
  | y :: r, 0, _, h2, _ => by
    have := h2 0 (by simp) (Nat.le_refl _)
    simp only [List.getElem_cons_zero] at this
    rw [insR, if_pos this]
    rfl
  | y :: r, a + 1, h1, h2, h3 => by
    have h4 := h3 0 (by simp) (by omega)
    simp only [List.getElem_cons_zero] at h4
    have h5 := h.anti y x
    rw [insR, if_neg (by omega), if_neg (by omega), insR_at h x r a (by simpa using h1) (fun j hj hja => by
      have := h2 (j + 1) (by simp; omega) (by omega)
      simpa using this) (fun j hj hja => by
      have := h3 (j + 1) (by simp; omega) (by omega)
      simpa using this)]
    simp
theorem insR_hit {α : Type} {c : α → α → Int} (h : Cmp c) (x : α) {l : List α} (hl : Up c l) {a : Nat} (ha : a < l.length) (h0 : c x l[a] = 0) : insR c x l = l := by
  have e := (h.zero _ _).1 h0
  refine up_one h (insR_up h x l hl) hl (fun z => ?_)
  rw [insR_mem h]
  constructor
  · rintro (rfl | hz)
    · rw [e]; exact List.getElem_mem ha
    · exact hz
  · exact fun hz => .inr hz
theorem up_lt {α : Type} {c : α → α → Int} {l : List α} (hl : Up c l) {i j : Nat} (hij : i < j) (hj : j < l.length) : c (l[i]'(by omega)) l[j] < 0 := List.pairwise_iff_getElem.1 hl i j (by omega) hj hij
/-- One row more. -/
theorem LR.snoc {lo rl a b : Nat} {w : World} {v : Value} {xs : List (List V)} (h : LR lo rl w v xs) (hra : rl ≤ a) (pa : Option Addr) (pc : Nat) (x : List V) (hx : Row1 a b w (.slice pa x.length pc) x) (hbw : b ≤ w.heap.size) (hk : ∀ k, v.ownBlock = some k → k < a ∨ b ≤ k) {n : Nat} (hn : n = w.heap.size) (hb : xs.length ≤ 4000000000000) (hlo : lo ≤ w.heap.size) :
    ∃ v' w', (Builtin.append_ #[32, 32] 32 #[v, .slice (some ⟨n, 0, none⟩) 1 1]).run Try.prog (w.alloc (.cells #[.slice pa x.length pc] 42)) = .ok v' w' ∧ LR lo rl w' v' (xs ++ [x]) ∧ Appended w v w' v' := by
  subst hn
  obtain ⟨hs, hl, ho, hr⟩ := h
  have hB := alloc_below w (.cells (HD.enc ⟨pa, x.length, pc⟩).toArray 42)
  obtain ⟨i0, hi, hz0, hz1, hz2⟩ := info_parts infoHD
  have hc := CellsAt.newAt w (HD.enc ⟨pa, x.length, pc⟩) 42 rfl
  have hsr : Src Try.prog 1 32 (.slice (some ⟨w.heap.size, 0, none⟩) 1 1) [(⟨pa, x.length, pc⟩ : HD)].length ([(⟨pa, x.length, pc⟩ : HD)].flatMap HD.enc) (w.alloc (.cells (HD.enc ⟨pa, x.length, pc⟩).toArray 42)) :=
    Src.ofSlice _ Try.underlying32 _ _ _ _ (by simp [HD.enc]) (fun j u hu => by rw [Addr.add_lit]; exact hc j u (by simpa using hu)) (fun u hu => by
      rw [List.flatMap_cons, List.flatMap_nil, List.append_nil] at hu
      exact HD.one _ u hu)
  obtain ⟨v', w', hrun, ho', hap⟩ := (Own.kept ho hB).app _ _ _ i0 _ 24 Try.underlying32 hi hz0 hz1 hz2 rfl hsr (by simp only [List.length_cons, List.length_nil]; omega) (by omega) (Nat.le_trans hlo hB.size)
  have hapw := (Appended.step v hB).trans hap
  refine ⟨v', w', hrun, ⟨hs ++ [⟨pa, x.length, pc⟩], by simp [hl], ho', fun i h1 h2 => ?_⟩, hapw⟩
  have key : ∀ {a b : Nat} {u : Value} {l : List V}, rl ≤ a → Row1 a b w u l → b ≤ w.heap.size → (∀ k, v.ownBlock = some k → k < a ∨ b ≤ k) → ∃ a b, rl ≤ a ∧ Row1 a b w' u l ∧ b ≤ w'.heap.size ∧ ∀ k, v'.ownBlock = some k → k < a ∨ b ≤ k := by
    intro a b u l e0 e1 e2 e3
    refine ⟨a, b, e0, e1.agree Row1.loc (hapw.agree e2 e3), Nat.le_trans e2 hapw.grown.size, fun k hk => ?_⟩
    rcases hapw.moved with e | ⟨m, e, hm⟩
    · rw [e] at hk; exact e3 k hk
    · rw [e] at hk; injection hk with hk; omega
  by_cases hi2 : i < hs.length
  · rw [List.getElem_append_left hi2, List.getElem_append_left (by omega)]
    obtain ⟨a, b, e0, e1, e2, e3⟩ := hr i hi2 (by omega)
    exact key e0 e1 e2 e3
  · have e1 : i = hs.length := by rw [List.length_append, List.length_singleton] at h1; omega
    subst e1
    rw [List.getElem_append_right (Nat.le_refl _), List.getElem_append_right (by omega)]
    simp only [hl, Nat.sub_self, List.getElem_cons_zero]
    exact key hra hx hbw hk
theorem size_RowH : ∀ w, (sizeOf (Try.prog.elem 32)).run Try.prog w = .ok 1 w := fun w => by kernel_rfl
set_option maxRecDepth 100000 in
set_option maxHeartbeats 4000000 in
theorem put_any (lo hi lx hx : Nat) (out : List (List V)) (x : List V) (vo vx : Value) (w : World) (hv : Rws lo hi w vo out) (hxr : Row1 lx hx w vx x) (hhi : hi ≤ w.heap.size) (hlo : lo ≤ w.heap.size) (hhx : hx ≤ w.heap.size) (hup : Up cmpR out) (hlen : out.length ≤ 1000000000000) (hxl : x.length ≤ 4000000000000)
    (hsx : ∀ a ∈ x, a.s.length ≤ 9223372036854775807) (hso : ∀ y ∈ out, ∀ a ∈ y, a.s.length ≤ 9223372036854775807) (R : Ending → World → Prop)
    (hR : ∀ w' v', Below w.heap.size w w' → Rws lo w'.heap.size w' v' (insR cmpR x out) → R (.returned v') w') : Calls Try.prog 115 #[vo, vx] w R := by
  have HR := Lib.hid hR
  have Hv := Lib.hid hv
  have Hx := Lib.hid hxr
  have Hup := Lib.hid hup
  have Hsx := Lib.hid hsx
  have Hso := Lib.hid hso
  obtain ⟨ao, co, rfl, -, -, -, -⟩ := hv.form
  obtain ⟨ax, cx, rfl, -, -, -, -⟩ := hxr.form
  clear hR hv hxr hup hsx hso
  go_enter Try.func115, Try.ntmps115
  go_upto_block 0 with fail
  go_cut [5] (fun t5 wx => ∃ a : Nat, a ≤ out.length ∧ t5 = .int .i64 a ∧ (∀ j (hj : j < out.length), a ≤ j → cmpR x out[j] < 0) ∧ (∀ j (hj : j < out.length), j < a → cmpR out[j] x < 0) ∧ Below w.heap.size w wx)
  case first =>
    go_wp2_with fail
    go_loopw [5] (fun t5 wr => ∃ a : Nat, a ≤ out.length ∧ t5 = .int .i64 a ∧ (∀ j (hj : j < out.length), a ≤ j → cmpR x out[j] < 0) ∧ Below w.heap.size w wr) (fun t5 _ => (intOf t5).toNat)
    case atStart => exact ⟨out.length, Nat.le_refl _, rfl, fun j hj h => absurd hj (by omega), Below.refl _ _⟩
    case round =>
      obtain ⟨a, ha, rfl, hgt, hB⟩ := hrel
      obtain ⟨wo, ewo⟩ : ∃ x, x = wr := ⟨_, rfl⟩
      subst ewo
      have Hgt := Lib.hid hgt
      have HB := Lib.hid hB
      have hz := hB.size
      clear hgt hB
      rcases Nat.eq_zero_or_pos a with h0 | h0
      · subst h0
        go_wp2_with fail
        go_meet
        exact ⟨0, Nat.zero_le _, rfl, Hgt.out, fun j hj h => absurd h (Nat.not_lt_zero _), HB.out⟩
      · obtain ⟨m, hm⟩ : ∃ m, a = m + 1 := ⟨a - 1, by omega⟩
        have hmo : m < out.length := by omega
        obtain ⟨ao', cap', e', -, -, -, hc⟩ := (Sl.below Hv.out rowE_loc HB.out hhi).form
        injection e' with e1 e2 e3
        subst e1 e3
        obtain ⟨b, off, rfl, hb1, hb2, hcc⟩ := hc m hmo
        obtain ⟨cs, _, hcs, sv, rfl, hsv⟩ := hcc m hmo
        have g0 := hcs.c1
        rw [Nat.mul_one] at g0
        have wsub : IntKind.i64.wrap ((a : Int) - 1) = (m : Int) := by rw [show (a : Int) - 1 = (m : Int) by omega]; exact wrap_ok (by omega) (by omega)
        have a0 : (0 : Int) < (a : Int) := by omega
        have m0 : (0 : Int) ≤ (m : Int) := by omega
        have ml : (m : Int) < (out.length : Int) := by omega
        have Hsv := Lib.hid hsv
        have Hmy := Lib.hid (Hso.out _ (List.getElem_mem hmo))
        have hslv := hsv
        obtain ⟨ay, cy, rfl, -, -, -, -⟩ := hslv.form
        have Hhit : Hid (cmpR x out[m] = 0 → insR cmpR x out = out) := Lib.hid (fun h => insR_hit cmpR_cmp x Hup.out hmo h)
        have Hbelow : Hid (0 < cmpR x out[m] → ∀ j (hj : j < out.length), j < a → cmpR out[j] x < 0) := Lib.hid (fun h j hj hja => by
          have e1 := cmpR_cmp.anti x out[m]
          by_cases ejm : j = m
          · subst ejm; omega
          · exact cmpR_cmp.trans _ out[m] _ (up_lt Hup.out (by omega) hmo) (by omega))
        have Habove : Hid (cmpR x out[m] < 0 → ∀ j (hj : j < out.length), m ≤ j → cmpR x out[j] < 0) := Lib.hid (fun h j hj hja => by
          by_cases ejm : j = m
          · subst ejm; exact h
          · exact Hgt.out j hj (by omega))
        have Hm := Lib.hid hm
        clear hcc hcs hc hsv hslv hm
        generalize out[m] = y at *
        go_wp2_with fail
        refine refRowsCompare_any lx hx lo hi x y _ _ wo (Sl.below Hx.out Row1.loc HB.out hhx) Hsv.out (by omega) (by omega) Hsx.out Hmy.out _ (fun w2 hB2 => ?_)
        have HB2 := Lib.hid (HB.out.trans (hB2.mono hz))
        clear hB2
        have h3 := cmpR_cmp.three x y
        rcases h3 with h3 | h3 | h3
        · have Hab := Lib.hid (Habove.out (by omega))
          rw [h3]
          clear h3
          go_wp2_with fail
          go_roundw
          case rel => exact ⟨m, by omega, rfl, Hab.out, HB2.out⟩
          case measure => have := Hm.out; simp [intOf]; omega
        · have hr := HR.out w2 (.slice (some ⟨b, off, none⟩) out.length co) HB2.out (by rw [Hhit.out h3]; exact (Sl.below Hv.out rowE_loc HB2.out hhi).mono rowE_loc (Nat.le_refl _) (by have := HB2.out.size; omega))
          rw [h3]
          clear h3
          go_wp2_with fail
          first | exact hr | exact fin hr rfl
        · have Hbe := Lib.hid (Hbelow.out (by omega))
          rw [h3]
          clear h3
          go_wp2_with fail
          go_meet
          exact ⟨a, ha, rfl, Hgt.out, Hbe.out, HB2.out⟩
  case rest =>
    obtain ⟨a, ha, rfl, hgt, hlt, hB⟩ := hcut
    have HI := Lib.hid (insR_at cmpR_cmp x out a ha hgt hlt)
    have HB := Lib.hid hB
    have hz := hB.size
    clear hgt hlt hB
    obtain ⟨v1, w1, hr1, ho1, ha1⟩ := appVL (lo := wc.heap.size) (Own.nil V.enc 24 3 wc.heap.size wc) (Sl.below Hx.out Row1.loc HB.out hhx) (by simpa using hxl) (Nat.le_refl _)
    rw [List.nil_append] at ho1
    have hB1 : Below wc.heap.size wc w1 := ha1.below (Nat.le_refl _) (fun k e => by cases e)
    have hz1 := hB1.size
    have HB1 := Lib.hid (HB.out.trans (hB1.mono hz))
    have Hrow := Lib.hid (OwnV.sl ho1)
    obtain ⟨p1, c1, rfl⟩ := Own.slice ho1
    obtain ⟨s2, hrun2, hs2⟩ := Sl.upTo (Sl.below Hv.out rowE_loc HB1.out hhi) 32 Try.underlying32 size_RowH a ha
    obtain ⟨v2, w2, hr2, ho2, ha2⟩ := LR.app (LR.nil w1.heap.size lo w1) hs2 (Nat.le_refl _) (by omega) (fun k e => by cases e) (by simp; omega) (Nat.le_refl _)
    rw [List.nil_append] at ho2
    have hB2 : Below w1.heap.size w1 w2 := ha2.below (Nat.le_refl _) (fun k e => by cases e)
    have hz2 := hB2.size
    have hk2 := ho2.lt
    obtain ⟨v3, w3, hr3, ho3, ha3⟩ := LR.snoc ho2 (show lo ≤ wc.heap.size by omega) p1 c1 x (Sl.below Hrow.out Row1.loc hB2 (Nat.le_refl _)) (by omega) (fun k hk => by have := hk2 k hk; omega) rfl (by rw [List.length_take]; omega) (by omega)
    have hB3 : Below w1.heap.size w1 w3 := hB2.trans (ha3.below hz2 (fun k hk => (hk2 k hk).1))
    have hz3 := hB3.size
    have hk3 := ho3.lt
    have HB3 := Lib.hid (HB1.out.trans (hB3.mono (by omega)))
    obtain ⟨s4, hrun4, hs4⟩ := Sl.fromOn (Sl.below Hv.out rowE_loc HB3.out hhi) 32 Try.underlying32 size_RowH a ha
    obtain ⟨v4, w4, hr4, ho4, ha4⟩ := LR.app ho3 hs4 (Nat.le_refl _) (by omega) (fun k hk => by have := hk3 k hk; omega) (by simp; omega) (by omega)
    have hr := HR.out w4 v4 (HB3.out.trans (ha4.below (by omega) (fun k hk => by have := hk3 k hk; omega))) (by rw [HI.out]; exact ho4.rws (by omega))
    have Hr := Lib.hid hr
    clear ho1 ha1 hB1 hs2 ho2 ha2 hB2 hk2 ho3 ha3 hB3 hk3 hs4 ho4 ha4 hr
    go_wp2_with (at_builtin; refine AtApp.of ?_)
    refine AtApp.go hr1 rfl rfl rfl rfl ?_
    go_wp2_with (at_builtin; refine AtApp.of ?_)
    refine AtApp.go hr2 rfl rfl rfl rfl ?_
    go_wp2_with (at_builtin; refine AtApp.of ?_)
    refine AtApp.go hr3 rfl rfl rfl rfl ?_
    go_wp2_with (at_builtin; refine AtApp.of ?_)
    refine AtApp.go hr4 rfl rfl rfl rfl ?_
    go_wp2_with fail
    first | exact Hr.out | exact fin Hr.out rfl
end Go.Proofs.Ytpncblagjkbemaa
end

/- The document's relation of rows: made, Of. -/
section
set_option linter.unusedVariables false
set_option linter.unusedSimpArgs false
namespace Go.Proofs.Ytpncblagjkbemaa
open Go.RowKit
set_option linter.unusedVariables false
set_option linter.unusedSimpArgs false

theorem canon_take {xs : List (List V)} {k : Nat} (h : k < xs.length) : relCanon (xs.take (k + 1)) = insR cmpR xs[k] (relCanon (xs.take k)) := by
  unfold relCanon canonL
  rw [List.take_succ_eq_append_getElem h, List.foldl_append]
  rfl
set_option maxRecDepth 100000 in
set_option maxHeartbeats 4000000 in
theorem refMade_any (lo hi : Nat) (cols : List S) (ac : Option Addr) (cc : Nat) (l : List (List V)) (lv : Value) (w : World) (hv : Rws lo hi w lv l) (hhi : hi ≤ w.heap.size) (hlen : l.length ≤ 1000000000000) (hrl : ∀ x ∈ l, x.length ≤ 4000000000000) (hrs : ∀ x ∈ l, ∀ a ∈ x, a.s.length ≤ 9223372036854775807) (R : Ending → World → Prop)
    (hbad : (32 < cols.length ∨ 100000 < (relCanon l).length) → ∀ w', Below w.heap.size w w' → R (.returned (.tuple #[.agg #[.slice none 0 0, .slice none 0 0], .int .i64 140])) w')
    (hok : cols.length ≤ 32 → (relCanon l).length ≤ 100000 → ∀ w' lv2, Below w.heap.size w w' → Rws w.heap.size w'.heap.size w' lv2 (relCanon l) → R (.returned (.tuple #[.agg #[.slice ac cols.length cc, lv2], .int .i64 0])) w') :
    Calls Try.prog 74 #[.slice ac cols.length cc, lv] w R := by
  have Hbad := Lib.hid hbad
  have Hok := Lib.hid hok
  have Hv := Lib.hid hv
  have Hrl := Lib.hid hrl
  have Hrs := Lib.hid hrs
  obtain ⟨av, cv, rfl, -, -, -, -⟩ := hv.form
  clear hbad hok hv hrl hrs
  have hB0 := alloc_below w (.cells #[.slice none 0 0, .slice none 0 0] 53)
  have hb0 := Blk.new w [.slice none 0 0, .slice none 0 0] 53 rfl
  obtain ⟨q, hq⟩ : ∃ q, q = cols.length := ⟨_, rfl⟩
  rw [← hq]
  have Hq := Lib.hid hq
  clear hq
  go_enter Try.func74, Try.ntmps74
  go_upto_region 1 with fail
  generalize w.alloc (.cells #[.slice none 0 0, .slice none 0 0] 53) = w0 at *
  have HB0 := Lib.hid hB0
  have Hb0 := Lib.hid hb0
  have hz0 := hB0.size
  have hb0l := hb0.lt
  clear hB0 hb0
  by_cases h32 : 32 < q
  · have c32 : (32 : Int) < (q : Int) := by omega
    have hb2 := Hb0.out
    obtain ⟨d0, d1⟩ := hb2.cells.c2
    have f0 := hb2.free 0
    have f1 := hb2.free 1
    simp only [Nat.zero_add] at d1
    have Hrv := Lib.hid (((hb2.set 0 (.slice none 0 0)).set 1 (.slice none 0 0)).cells.runVar (P := Try.prog) (t := 53) (fun _ => by kernel_rfl) (fun _ => by kernel_rfl))
    have Hr := Lib.hid (Hbad.out (.inl (by rw [← Hq.out]; exact h32)) _ ((HB0.out.setCell (p := ⟨w.heap.size, 0, none⟩) (Nat.le_refl _) (.slice none 0 0)).setCell (p := ⟨w.heap.size, 1, none⟩) (Nat.le_refl _) (.slice none 0 0)))
    clear hb2
    go_wp2_with fail
    exact ret_cell_tmp rfl rfl Hrv.out rfl rfl Hr.out
  · have c32 : ¬ (32 : Int) < (q : Int) := by omega
    go_wp2_with fail
    go_loopw [6, 7] (fun t6 t7 wr => ∃ k : Nat, k ≤ l.length ∧ t7 = .int .i64 k ∧ Rws w0.heap.size wr.heap.size wr t6 (relCanon (l.take k)) ∧ Below w0.heap.size w0 wr) (fun _ t7 _ => l.length - (intOf t7).toNat)
    case atStart => exact ⟨0, Nat.zero_le _, rfl, Sl.nil _ _ _ _ _, Below.refl _ _⟩
    case round =>
      obtain ⟨k, hk, rfl, ho, hB⟩ := hrel
      obtain ⟨wo, ewo⟩ : ∃ x, x = wr := ⟨_, rfl⟩
      subst ewo
      have Ho := Lib.hid ho
      have HB := Lib.hid hB
      have hz := hB.size
      have kk0 : (0 : Int) ≤ (k : Int) := by omega
      have HBw := Lib.hid (HB0.out.trans (hB.mono hz0))
      obtain ⟨po, co, hpo, -, -, -, -⟩ := ho.form
      clear ho hB
      by_cases hlt : k < l.length
      · obtain ⟨ao', cap', e', -, -, -, hc⟩ := (Sl.below Hv.out rowE_loc HBw.out hhi).form
        injection e' with e1 e2 e3
        subst e1 e3
        obtain ⟨b, off, rfl, hb1, hb2, hcc⟩ := hc k hlt
        obtain ⟨cs, _, hcs, sv, rfl, hsv⟩ := hcc k hlt
        have g0 := hcs.c1
        rw [Nat.mul_one] at g0
        have kkl : (k : Int) < (l.length : Int) := by omega
        have Hsv := Lib.hid hsv
        have Hst := Lib.hid (canon_take hlt)
        have Hxl := Lib.hid (Hrl.out _ (List.getElem_mem hlt))
        have Hxs := Lib.hid (Hrs.out _ (List.getElem_mem hlt))
        have hcl : (relCanon (l.take k)).length ≤ 1000000000000 := by
          have := canon_len_le (l.take k)
          rw [List.length_take] at this
          omega
        have Hos : Hid (∀ y ∈ relCanon (l.take k), ∀ a ∈ y, a.s.length ≤ 9223372036854775807) := Lib.hid (fun y hy a ha => Hrs.out y (List.mem_of_mem_take ((canon_mem cmpR_cmp _ _).1 hy)) a ha)
        have Hup : Hid (Up cmpR (relCanon (l.take k))) := Lib.hid (canon_up cmpR_cmp _)
        have hslv := hsv
        obtain ⟨ay, cy, rfl, -, -, -, -⟩ := hslv.form
        clear hcc hcs hc hsv hslv
        generalize l[k] = x at *
        generalize relCanon (l.take k) = out at *
        subst hpo
        go_wp2_with fail
        refine put_any w0.heap.size wo.heap.size lo hi out x _ _ wo Ho.out Hsv.out (Nat.le_refl _) hz (by have := HBw.out.size; omega) Hup.out hcl Hxl.out Hxs.out Hos.out _ (fun w2 v2 hB2 ho2 => ?_)
        have HB2 := Lib.hid (HB.out.trans (hB2.mono hz))
        have Ho2 := Lib.hid ho2
        obtain ⟨p2, c2, e2, -, -, -, -⟩ := ho2.form
        clear hB2 ho2
        subst e2
        go_wp2_with fail
        go_roundw
        case rel => exact ⟨k + 1, by omega, by go_num, by rw [Hst.out]; exact Ho2.out, HB2.out⟩
        case measure => simp [intOf]; omega
      · obtain rfl : k = l.length := by omega
        have hO := Ho.out
        rw [List.take_length] at hO hpo
        have HO := Lib.hid hO
        clear hO
        have hb2 := Hb0.out.below HB.out hb0l
        obtain ⟨d0, d1⟩ := hb2.cells.c2
        have f0 := hb2.free 0
        have f1 := hb2.free 1
        simp only [Nat.zero_add] at d1
        obtain ⟨m, hm⟩ : ∃ m, m = (relCanon l).length := ⟨_, rfl⟩
        rw [← hm] at hpo
        have Hm := Lib.hid hm
        clear hm
        subst hpo
        have llt : ¬ ((l.length : Nat) : Int) < (l.length : Int) := by omega
        by_cases h10 : 100000 < m
        · have c10 : (100000 : Int) < (m : Int) := by omega
          have Hrv := Lib.hid (((hb2.set 0 (.slice none 0 0)).set 1 (.slice none 0 0)).cells.runVar (P := Try.prog) (t := 53) (fun _ => by kernel_rfl) (fun _ => by kernel_rfl))
          have Hr := Lib.hid (Hbad.out (.inr (by rw [← Hm.out]; exact h10)) _ ((HBw.out.setCell (p := ⟨w.heap.size, 0, none⟩) (Nat.le_refl _) (.slice none 0 0)).setCell (p := ⟨w.heap.size, 1, none⟩) (Nat.le_refl _) (.slice none 0 0)))
          clear hb2
          go_wp2_with fail
          exact ret_cell_tmp rfl rfl Hrv.out rfl rfl Hr.out
        · have c10 : ¬ (100000 : Int) < (m : Int) := by omega
          have Hrv := Lib.hid (((hb2.set 0 (.slice ac q cc)).set 1 (.slice po m co)).cells.runVar (P := Try.prog) (t := 53) (fun _ => by kernel_rfl) (fun _ => by kernel_rfl))
          have hrw : Rws w.heap.size ((wo.setCell ⟨w.heap.size, 0, none⟩ (.slice ac q cc)).setCell ⟨w.heap.size, 1, none⟩ (.slice po m co)).heap.size ((wo.setCell ⟨w.heap.size, 0, none⟩ (.slice ac q cc)).setCell ⟨w.heap.size, 1, none⟩ (.slice po m co)) (.slice po m co) (relCanon l) :=
            (HO.out.agree rowE_loc (fun k h1 h2 => (Below.heap_setCell _ _ _ _ (by show k ≠ w.heap.size; omega)).trans (Below.heap_setCell _ _ _ _ (by show k ≠ w.heap.size; omega)))).mono rowE_loc hz0 (by simp)
          have hr := Hok.out (by rw [← Hq.out]; omega) (by rw [← Hm.out]; omega) ((wo.setCell ⟨w.heap.size, 0, none⟩ (.slice ac q cc)).setCell ⟨w.heap.size, 1, none⟩ (.slice po m co)) (.slice po m co) ((HBw.out.setCell (p := ⟨w.heap.size, 0, none⟩) (Nat.le_refl _) (.slice ac q cc)).setCell (p := ⟨w.heap.size, 1, none⟩) (Nat.le_refl _) (.slice po m co)) hrw
          rw [← Hq.out] at hr
          have Hr := Lib.hid hr
          clear hb2 hr
          go_wp2_with fail
          exact ret_cell_tmp rfl rfl Hrv.out rfl rfl Hr.out
end Go.Proofs.Ytpncblagjkbemaa
end

/- The document's relation of rows: Of. -/
section
set_option linter.unusedVariables false
set_option linter.unusedSimpArgs false
namespace Go.Proofs.Ytpncblagjkbemaa
open Go.RowKit
set_option linter.unusedVariables false
set_option linter.unusedSimpArgs false

end Go.Proofs.Ytpncblagjkbemaa
end

/- Relations that are answered, or nothing beside an error. -/
section
set_option linter.unusedVariables false
set_option linter.unusedSimpArgs false
namespace Go.Proofs.Ytpncblagjkbemaa
open Go.RowKit
set_option linter.unusedVariables false
set_option linter.unusedSimpArgs false

/-- What is answered beside an error: nothing, if there is one. -/
def okL {α : Type} (e : Int) (l : List α) : List α := if e = 0 then l else []
def madeErr (cols : List S) (xs : List (List V)) : Int := if 32 < cols.length ∨ 100000 < (relCanon xs).length then 140 else 0
theorem okL_ok {α : Type} {e : Int} (h : e = 0) (l : List α) : okL e l = l := if_pos h
theorem okL_no {α : Type} {e : Int} (h : e ≠ 0) (l : List α) : okL e l = [] := if_neg h
theorem OfK_any (lo hi lc hc : Nat) (cols : List S) (l : List (List V)) (cv' lv : Value) (w : World) (hcols : Strs lc hc w cv' cols) (hv : Rws lo hi w lv l) (hhi : hi ≤ w.heap.size) (hhc : hc ≤ w.heap.size) (hlen1 : l.length ≤ 1000000000000) (hrl : ∀ x ∈ l, x.length ≤ 4000000000000) (R : Ending → World → Prop)
    (hR : ∀ w' cv2 lv2 hs, Below w.heap.size w w' → OwnT w.heap.size w' cv2 (okL (ofErr cols l) cols) → OwnR w.heap.size w' lv2 hs (okL (ofErr cols l) (relCanon l)) → R (.returned (.tuple #[.agg #[cv2, lv2], .int .i64 (ofErr cols l)])) w') :
    Calls Try.prog 26 #[cv', lv] w R := by
  refine Of_any lo hi lc hc cols l cv' lv w hcols hv hhi hhc hlen1 hrl R (fun hb w' hB => ?_) (fun h1 w' cv2 lv2 hs hB hT hO => ?_)
  · exact hR w' _ _ [] hB (by rw [okL_no hb]; exact Own.nil _ _ _ _ _) (by rw [okL_no hb]; exact OwnR.nil _ _)
  · have := hR w' cv2 lv2 hs hB (by rw [okL_ok h1]; exact hT) (by rw [okL_ok h1]; exact hO)
    rw [h1] at this
    exact this
theorem okL_mem {α : Type} {e : Int} {l : List α} {x : α} (h : x ∈ okL e l) : x ∈ l := by
  unfold okL at h
  split at h
  · exact h
  · cases h
end Go.Proofs.Ytpncblagjkbemaa
end

/- The program's Project and Rename. -/
section
set_option linter.unusedVariables false
set_option linter.unusedSimpArgs false
namespace Go.Proofs.Ytpncblagjkbemaa
open Go.RowKit
set_option linter.unusedVariables false
set_option linter.unusedSimpArgs false

def projErr (rc : List S) (l : List (List V)) (cols : List S) : Int := if mayRel rc l && withinB cols rc && onceB cols then madeErr cols (l.map fun x => pickL x (placesL cols rc)) else 2
theorem may_len {cols : List S} {l : List (List V)} (h : mayRel cols l = true) : ∀ x ∈ l, x.length = cols.length := by
  intro x hx
  obtain ⟨i, hi, rfl⟩ := List.getElem_of_mem hx
  unfold mayRel at h
  rw [Bool.and_eq_true, List.all_eq_true] at h
  have := h.2 i (List.mem_range.2 hi)
  unfold mayAt at this
  rw [getDS l _ i hi, Bool.and_eq_true] at this
  simpa using this.1
theorem may_many {cols : List S} {l : List (List V)} (h : mayRel cols l = true) : l.length ≤ 100000 ∧ cols.length ≤ 32 := by
  unfold mayRel at h
  simp only [Bool.and_eq_true, decide_eq_true_eq] at h
  exact ⟨h.1.2, once_len h.1.1⟩
end Go.Proofs.Ytpncblagjkbemaa
end

/- slices.BinarySearchFunc of rows; the program's Has. -/
section
set_option linter.unusedVariables false
set_option linter.unusedSimpArgs false
namespace Go.Proofs.Ytpncblagjkbemaa
open Go.RowKit
set_option linter.unusedVariables false
set_option linter.unusedSimpArgs false

theorem wrapU {x : Int} (h1 : 0 ≤ x) (h2 : x ≤ 18446744073709551615) : IntKind.u64.wrap x = x := by
  simp [IntKind.wrap, IntKind.bits, IntKind.signed]; omega
theorem may_up {cols : List S} {l : List (List V)} (h : mayRel cols l = true) : l.Pairwise fun a b => cmpR a b < 0 := by
  have step : ∀ i, i + 1 < l.length → cmpR (l.getD i []) (l.getD (i + 1) []) < 0 := by
    intro i hi
    unfold mayRel at h
    rw [Bool.and_eq_true, List.all_eq_true] at h
    have := h.2 (i + 1) (List.mem_range.2 hi)
    unfold mayAt at this
    rw [Bool.and_eq_true] at this
    simpa using this.2
  have key : ∀ d i, i + (d + 1) < l.length → cmpR (l.getD i []) (l.getD (i + (d + 1)) []) < 0 := by
    intro d
    induction d with
    | zero => intro i hi; exact step i hi
    | succ d ih => intro i hi; exact cmpR_cmp.trans _ _ _ (ih i (by omega)) (step (i + (d + 1)) (by omega))
  rw [List.pairwise_iff_getElem]
  intro i j hi hj hij
  have := key (j - i - 1) i (by omega)
  rw [show i + (j - i - 1 + 1) = j by omega, getDS l _ i hi, getDS l _ j hj] at this
  exact this
end Go.Proofs.Ytpncblagjkbemaa
end

/- The library's merge in place, at rows' headers. (Printed by stb.py.) -/
section
set_option linter.unusedVariables false
set_option linter.unusedSimpArgs false
namespace Go.Proofs.Ytpncblagjkbemaa
open Go.RowKit Go.Sort Go.Shelf
set_option linter.unusedVariables false
set_option linter.unusedSimpArgs false
variable {α : Type} [Inhabited α]

/-- What a merge leaves. -/
def SymPost (enc : α → Value) (lt : α → α → Bool) (w0 : World) (blk off a b : Nat) (d : Array α) (e : Ending) (w' : World) : Prop := e = .returned (.tuple #[]) ∧ ∃ d', PermIn a b d d' ∧ SortedIn lt a b d' ∧ SW enc w0 blk off d' w'
set_option maxHeartbeats 16000000 in
set_option maxRecDepth 1000000 in
theorem symMerge1_s (enc : α → Value) (cf : α → α → Int) (hO : SWO (ltOf cf)) (g : Nat) (cb : Array Value) (blk off cap a m b : Nat) (d0 d : Array α) (w0 w : World)
    (eg : ∀ args w, (callFunc g args).run Try.prog w = .ok (.enter g args) w) (hcmp : CmpLays1 Try.prog g cb enc cf blk off d0.size w0) (R : Go.Proofs.Row1 enc w0 blk off d0) (hs : d0.size = d.size) (S : SW enc w0 blk off d w) (ham : a < m) (hmb : m < b) (hb : b ≤ d.size) (hsz : d.size < 4611686018427387904)
    (hs1 : SortedIn (ltOf cf) a m d) (hs2 : SortedIn (ltOf cf) m b d) (hm : m = a + 1) :
    Calls Try.prog 133 #[.slice (some ⟨blk, off, none⟩) d.size cap, .int .i64 a, .int .i64 m, .int .i64 b, .func (.func g) #[] cb] w (SymPost enc (ltOf cf) w0 blk off a b d) := by
  have mixed : Try.prog.follows .mixedOrders = true := by kernel_rfl
  have hcl0 := R.hO.cells
  simp only [Value.cells] at hcl0
  have hst := R.hO.store Try.prog
  have S0 : Aside (SW enc w0 blk off d w) := S
  have HC : Aside _ := hcmp
  have HR := Lib.hid R
  have HO := Lib.hid hO
  have Hs1 := Lib.hid hs1
  have Hs2 := Lib.hid hs2
  have Hs := Lib.hid hs
  have hszI : (d.size : Int) < 4611686018427387904 := by omega
  have hbI : (b : Int) ≤ (d.size : Int) := by omega
  clear S hcmp R hs1 hs2 hO hs
  have e1 : (m : Int) - (a : Int) = 1 := by omega
  have Hm := Lib.hid hm
  clear hm
  go_enter Try.func133, Try.ntmps133
  go_wp2_with fail
  clear e1
  go_loopw [10, 11] (fun t10 t11 wr => ∃ (i j : Nat), t10 = .int .i64 i ∧ t11 = .int .i64 j ∧ m ≤ i ∧ i ≤ j ∧ j ≤ b ∧ Hid (i = m ∨ ltOf cf d[i - 1]! d[a]! = true) ∧ Hid (j = b ∨ ltOf cf d[j]! d[a]! = false) ∧ Aside (SW enc w0 blk off d wr)) (fun t10 t11 _ => (intOf t11).toNat - (intOf t10).toNat)
  case atStart => exact ⟨m, b, rfl, rfl, Nat.le_refl _, by omega, Nat.le_refl _, Lib.hid (.inl rfl), Lib.hid (.inl rfl), S0⟩
  case round =>
    clear S0
    obtain ⟨i, j, rfl, rfl, hmi, hij, hjb, Hi, Hj, S1⟩ := hrel
    by_cases hlt : i < j
    · have iij : (i : Int) < (j : Int) := by omega
      obtain ⟨h, hh⟩ : ∃ q, q = (i + j) / 2 := ⟨_, rfl⟩
      have w1 : IntKind.i64.wrap ((i : Int) + (j : Int)) = (i : Int) + (j : Int) := wrapOk (by omega) (by omega)
      have w2 : IntKind.u64.wrap ((i : Int) + (j : Int)) = (i : Int) + (j : Int) := wrapU (by omega) (by omega)
      have w3 : ((i : Int) + (j : Int)) / 2 = (h : Int) := by omega
      have h1h : i ≤ h ∧ h < j := by omega
      have zzh : (0 : Int) ≤ (h : Int) := by omega
      have zlh : (h : Int) < (d.size : Int) := by omega
      have za : (0 : Int) ≤ (a : Int) := by omega
      have zla : (a : Int) < (d.size : Int) := by omega
      cases hlv : ltOf cf d[h]! d[a]! with
      | true =>
        obtain ⟨x1, hx1⟩ : ∃ x, x = d[h]! := ⟨_, rfl⟩
        obtain ⟨y1, hy1⟩ : ∃ x, x = d[a]! := ⟨_, rfl⟩
        have l1 := S1.out.cl HR.out Hs.out.symm (h) (by omega)
        have l2 := S1.out.cl HR.out Hs.out.symm (a) (by omega)
        rw [← hx1] at l1
        rw [← hy1] at l2
        have hc1 := S1.out.cmp HC.out Hs.out.symm x1 y1
        have hv1 : cf x1 y1 < 0 := by rw [hx1, hy1]; exact of_decide_eq_true hlv
        have hd1 : decide (cf x1 y1 < 0) = true := decide_eq_true hv1
        have Hlv := Lib.hid hlv
        clear hh
        clear hx1 hy1 hlv
        go_wp2_with fail
        go_quiet_grown (first | (go_at_fn g; refine Calls.grown_of (hc1 _ _)))
        have S2 : Aside (SW enc w0 blk off d (grow (wr.drewN nq) osq)) := S1.out.grown nq osq
        clear l1 l2 hc1 S1
        generalize grow (wr.drewN nq) osq = w2 at S2 ⊢
        clear nq osq
        go_wp2_with fail
        go_roundw
        case rel => exact ⟨h + 1, j, by go_num, rfl, by omega, by omega, hjb, Lib.hid (.inr (by rw [Nat.add_sub_cancel]; exact Hlv.out)), Hj, S2⟩
        case measure => simp [intOf]; omega
      | false =>
        obtain ⟨x1, hx1⟩ : ∃ x, x = d[h]! := ⟨_, rfl⟩
        obtain ⟨y1, hy1⟩ : ∃ x, x = d[a]! := ⟨_, rfl⟩
        have l1 := S1.out.cl HR.out Hs.out.symm (h) (by omega)
        have l2 := S1.out.cl HR.out Hs.out.symm (a) (by omega)
        rw [← hx1] at l1
        rw [← hy1] at l2
        have hc1 := S1.out.cmp HC.out Hs.out.symm x1 y1
        have hv1 : ¬ cf x1 y1 < 0 := by rw [hx1, hy1]; exact of_decide_eq_false hlv
        have hd1 : decide (cf x1 y1 < 0) = false := decide_eq_false hv1
        have Hlv := Lib.hid hlv
        clear hh
        clear hx1 hy1 hlv
        go_wp2_with fail
        go_quiet_grown (first | (go_at_fn g; refine Calls.grown_of (hc1 _ _)))
        have S2 : Aside (SW enc w0 blk off d (grow (wr.drewN nq) osq)) := S1.out.grown nq osq
        clear l1 l2 hc1 S1
        generalize grow (wr.drewN nq) osq = w2 at S2 ⊢
        clear nq osq
        go_wp2_with fail
        go_roundw
        case rel => exact ⟨i, h, rfl, rfl, hmi, by omega, by omega, Hi, Lib.hid (.inr Hlv.out), S2⟩
        case measure => simp [intOf]; omega
    · obtain rfl : i = j := by omega
      have iij : ¬ (i : Int) < (i : Int) := by omega
      go_wp2_with fail
      go_loopw [13] (fun t13 wr => ∃ (k : Nat) (dk : Array α), t13 = .int .i64 k ∧ a ≤ k ∧ k + 1 ≤ i ∧ dk.size = d.size ∧ Hid (PermIn a b d dk) ∧ Hid (Rot a (a + 1) (k + 1) d dk) ∧ Aside (SW enc w0 blk off dk wr)) (fun t13 _ => i - (intOf t13).toNat)
      case atStart => exact ⟨a, d, rfl, Nat.le_refl _, by omega, rfl, Lib.hid (permIn_refl _ _ _), Lib.hid (Rot.none2 d a (a + 1) (by omega)), S1⟩
      case round =>
        clear S1
        obtain ⟨k, dk, rfl, hak, hki, hdk, HP, Hr, S1⟩ := hrel
        have Hdk := Lib.hid hdk
        clear hdk
        by_cases hlt : k + 1 < i
        · have g1 : (k : Int) < (i : Int) - 1 := by omega
          obtain ⟨jN, hjN⟩ : ∃ q, q = k + 1 := ⟨_, rfl⟩
          have eb : ((k : Int) + 1).toNat = jN := by omega
          have pb : (0 : Int) ≤ (k : Int) + 1 := by omega
          have bb : (k : Int) + 1 < (d.size : Int) := by omega
          have rb : IntKind.i64.wrap ((k : Int) + 1) = (k : Int) + 1 := by rw [IntKind.wrap_i64]; omega
          have pa : (0 : Int) ≤ (k : Int) := by omega
          have ba : (k : Int) < (d.size : Int) := by omega
          have HjN := Lib.hid hjN
          have hjd : jN < d.size := by omega
          clear hjN
          obtain ⟨x1, hx1⟩ : ∃ x, x = dk[k]! := ⟨_, rfl⟩
          obtain ⟨y1, hy1⟩ : ∃ x, x = dk[jN]! := ⟨_, rfl⟩
          have S3 : Aside (SW enc w0 blk off (swp dk k jN) ((wr.setCell ⟨blk, off + k, none⟩ (enc y1)).setCell ⟨blk, off + jN, none⟩ (enc x1)).drew) := by rw [hx1, hy1]; exact S1.out.swapped HR.out k jN (by have := Hdk.out; omega) (by have := Hdk.out; omega)
          have hsd : dk.size = d0.size := by rw [Hdk.out]; exact Hs.out.symm
          have c1a := S1.out.c1 HR.out hsd k (by have := Hdk.out; omega)
          have c1b := S1.out.c1 HR.out hsd jN (by have := Hdk.out; omega)
          have f1a := S1.out.f1 HR.out hsd k (by have := Hdk.out; omega)
          have f1b := S1.out.f1 HR.out hsd jN (by have := Hdk.out; omega)
          obtain ⟨u1, c1c⟩ := S1.out.c2 HR.out hsd k jN (by have := Hdk.out; omega) (by have := Hdk.out; omega) (enc y1)
          rw [← hx1] at c1a
          rw [← hy1] at c1b
          clear S1 hx1 hy1 hsd
          go_wp2_with fail
          go_big_region_o
          clear c1a c1b c1c f1a f1b
          generalize ((wr.setCell ⟨blk, off + k, none⟩ (enc y1)).setCell ⟨blk, off + jN, none⟩ (enc x1)).drew = w3 at S3 ⊢
          clear eb
          go_wp2_with fail
          go_roundw
          case rel => exact ⟨k + 1, swp dk k jN, by go_num, by omega, by omega, by rw [size_swp]; exact Hdk.out, Lib.hid (permIn_trans _ _ _ _ _ HP.out (swp_permIn _ _ _ _ _ (by omega) (by omega) (by have := HjN.out; omega) (by have := HjN.out; omega) (by have := Hdk.out; omega))), Lib.hid (by rw [HjN.out]; exact Rot.up hak (by have := Hdk.out; omega) Hr.out), S3⟩
          case measure => simp [intOf]; omega
        · have g1 : ¬ (k : Int) < (i : Int) - 1 := by omega
          obtain rfl : i = k + 1 := by omega
          have hpost : SymPost enc (ltOf cf) w0 blk off a b d (.returned (.tuple #[])) wr := ⟨rfl, dk, HP.out, merge1 HO.out (by rw [← Hm.out]; exact Hs2.out) (by omega) (by omega) Hr.out (by rw [← Hm.out]; exact Hi.out) Hj.out, S1.out⟩
          clear S1
          have Hpost := Lib.hid hpost
          clear hpost
          go_wp2_with fail
          go_end0
          exact Hpost.out
set_option maxHeartbeats 16000000 in
set_option maxRecDepth 1000000 in
theorem symMerge2_s (enc : α → Value) (cf : α → α → Int) (hO : SWO (ltOf cf)) (g : Nat) (cb : Array Value) (blk off cap a m b : Nat) (d0 d : Array α) (w0 w : World)
    (eg : ∀ args w, (callFunc g args).run Try.prog w = .ok (.enter g args) w) (hcmp : CmpLays1 Try.prog g cb enc cf blk off d0.size w0) (R : Go.Proofs.Row1 enc w0 blk off d0) (hs : d0.size = d.size) (S : SW enc w0 blk off d w) (ham : a < m) (hmb : m < b) (hb : b ≤ d.size) (hsz : d.size < 4611686018427387904)
    (hs1 : SortedIn (ltOf cf) a m d) (hs2 : SortedIn (ltOf cf) m b d) (hm : m ≠ a + 1) (hbm : b = m + 1) :
    Calls Try.prog 133 #[.slice (some ⟨blk, off, none⟩) d.size cap, .int .i64 a, .int .i64 m, .int .i64 b, .func (.func g) #[] cb] w (SymPost enc (ltOf cf) w0 blk off a b d) := by
  have mixed : Try.prog.follows .mixedOrders = true := by kernel_rfl
  have hcl0 := R.hO.cells
  simp only [Value.cells] at hcl0
  have hst := R.hO.store Try.prog
  have S0 : Aside (SW enc w0 blk off d w) := S
  have HC : Aside _ := hcmp
  have HR := Lib.hid R
  have HO := Lib.hid hO
  have Hs1 := Lib.hid hs1
  have Hs2 := Lib.hid hs2
  have Hs := Lib.hid hs
  have hszI : (d.size : Int) < 4611686018427387904 := by omega
  have hbI : (b : Int) ≤ (d.size : Int) := by omega
  clear S hcmp R hs1 hs2 hO hs
  obtain ⟨q, hq⟩ : ∃ q, q = m - a := ⟨_, rfl⟩
  have e1 : (m : Int) - (a : Int) = (q : Int) := by omega
  have g0 : ((q : Int) == 1) = false := by simp; omega
  have e2 : (b : Int) - (m : Int) = 1 := by omega
  have Hm := Lib.hid hm
  have Hbm := Lib.hid hbm
  clear hm hq hbm
  go_enter Try.func133, Try.ntmps133
  go_wp2_with fail
  clear e1 e2 g0
  go_loopw [14, 15] (fun t14 t15 wr => ∃ (i j : Nat), t14 = .int .i64 i ∧ t15 = .int .i64 j ∧ a ≤ i ∧ i ≤ j ∧ j ≤ m ∧ Hid (i = a ∨ ltOf cf d[m]! d[i - 1]! = false) ∧ Hid (j = m ∨ ltOf cf d[m]! d[j]! = true) ∧ Aside (SW enc w0 blk off d wr)) (fun t14 t15 _ => (intOf t15).toNat - (intOf t14).toNat)
  case atStart => exact ⟨a, m, rfl, rfl, Nat.le_refl _, by omega, Nat.le_refl _, Lib.hid (.inl rfl), Lib.hid (.inl rfl), S0⟩
  case round =>
    clear S0
    obtain ⟨i, j, rfl, rfl, hai, hij, hjm, Hi, Hj, S1⟩ := hrel
    by_cases hlt : i < j
    · have iij : (i : Int) < (j : Int) := by omega
      obtain ⟨h, hh⟩ : ∃ q, q = (i + j) / 2 := ⟨_, rfl⟩
      have w1 : IntKind.i64.wrap ((i : Int) + (j : Int)) = (i : Int) + (j : Int) := wrapOk (by omega) (by omega)
      have w2 : IntKind.u64.wrap ((i : Int) + (j : Int)) = (i : Int) + (j : Int) := wrapU (by omega) (by omega)
      have w3 : ((i : Int) + (j : Int)) / 2 = (h : Int) := by omega
      have h1h : i ≤ h ∧ h < j := by omega
      have zzh : (0 : Int) ≤ (h : Int) := by omega
      have zlh : (h : Int) < (d.size : Int) := by omega
      have za : (0 : Int) ≤ (m : Int) := by omega
      have zla : (m : Int) < (d.size : Int) := by omega
      cases hlv : ltOf cf d[m]! d[h]! with
      | true =>
        obtain ⟨x1, hx1⟩ : ∃ x, x = d[m]! := ⟨_, rfl⟩
        obtain ⟨y1, hy1⟩ : ∃ x, x = d[h]! := ⟨_, rfl⟩
        have l1 := S1.out.cl HR.out Hs.out.symm (m) (by omega)
        have l2 := S1.out.cl HR.out Hs.out.symm (h) (by omega)
        rw [← hx1] at l1
        rw [← hy1] at l2
        have hc1 := S1.out.cmp HC.out Hs.out.symm x1 y1
        have hv1 : cf x1 y1 < 0 := by rw [hx1, hy1]; exact of_decide_eq_true hlv
        have hd1 : decide (cf x1 y1 < 0) = true := decide_eq_true hv1
        have Hlv := Lib.hid hlv
        clear hh
        clear hx1 hy1 hlv
        go_wp2_with fail
        go_quiet_grown (first | (go_at_fn g; refine Calls.grown_of (hc1 _ _)))
        have S2 : Aside (SW enc w0 blk off d (grow (wr.drewN nq) osq)) := S1.out.grown nq osq
        clear l1 l2 hc1 S1
        generalize grow (wr.drewN nq) osq = w2 at S2 ⊢
        clear nq osq
        go_wp2_with fail
        go_roundw
        case rel => exact ⟨i, h, rfl, rfl, hai, by omega, by omega, Hi, Lib.hid (.inr Hlv.out), S2⟩
        case measure => simp [intOf]; omega
      | false =>
        obtain ⟨x1, hx1⟩ : ∃ x, x = d[m]! := ⟨_, rfl⟩
        obtain ⟨y1, hy1⟩ : ∃ x, x = d[h]! := ⟨_, rfl⟩
        have l1 := S1.out.cl HR.out Hs.out.symm (m) (by omega)
        have l2 := S1.out.cl HR.out Hs.out.symm (h) (by omega)
        rw [← hx1] at l1
        rw [← hy1] at l2
        have hc1 := S1.out.cmp HC.out Hs.out.symm x1 y1
        have hv1 : ¬ cf x1 y1 < 0 := by rw [hx1, hy1]; exact of_decide_eq_false hlv
        have hd1 : decide (cf x1 y1 < 0) = false := decide_eq_false hv1
        have Hlv := Lib.hid hlv
        clear hh
        clear hx1 hy1 hlv
        go_wp2_with fail
        go_quiet_grown (first | (go_at_fn g; refine Calls.grown_of (hc1 _ _)))
        have S2 : Aside (SW enc w0 blk off d (grow (wr.drewN nq) osq)) := S1.out.grown nq osq
        clear l1 l2 hc1 S1
        generalize grow (wr.drewN nq) osq = w2 at S2 ⊢
        clear nq osq
        go_wp2_with fail
        go_roundw
        case rel => exact ⟨h + 1, j, by go_num, rfl, by omega, by omega, hjm, Lib.hid (.inr (by rw [Nat.add_sub_cancel]; exact Hlv.out)), Hj, S2⟩
        case measure => simp [intOf]; omega
    · obtain rfl : i = j := by omega
      have iij : ¬ (i : Int) < (i : Int) := by omega
      go_wp2_with fail
      go_loopw [17] (fun t17 wr => ∃ (k : Nat) (dk : Array α), t17 = .int .i64 k ∧ i ≤ k ∧ k ≤ m ∧ dk.size = d.size ∧ Hid (PermIn a b d dk) ∧ Hid (Rot k m (m + 1) d dk) ∧ Aside (SW enc w0 blk off dk wr)) (fun t17 _ => (intOf t17).toNat)
      case atStart => exact ⟨m, d, rfl, by omega, Nat.le_refl _, rfl, Lib.hid (permIn_refl _ _ _), Lib.hid (Rot.none1 d m (m + 1)), S1⟩
      case round =>
        clear S1
        obtain ⟨k, dk, rfl, hik, hkm, hdk, HP, Hr, S1⟩ := hrel
        have Hdk := Lib.hid hdk
        clear hdk
        by_cases hlt : i < k
        · have g1 : (i : Int) < (k : Int) := by omega
          obtain ⟨jN, hjN⟩ : ∃ q, q = k - 1 := ⟨_, rfl⟩
          have eb : (k : Int) - 1 = (jN : Int) := by omega
          have pb : (0 : Int) ≤ (jN : Int) := by omega
          have bb : (jN : Int) < (d.size : Int) := by omega
          have pa : (0 : Int) ≤ (k : Int) := by omega
          have ba : (k : Int) < (d.size : Int) := by omega
          have HjN := Lib.hid hjN
          have hjd : jN < d.size := by omega
          clear hjN
          obtain ⟨x1, hx1⟩ : ∃ x, x = dk[k]! := ⟨_, rfl⟩
          obtain ⟨y1, hy1⟩ : ∃ x, x = dk[jN]! := ⟨_, rfl⟩
          have S3 : Aside (SW enc w0 blk off (swp dk k jN) ((wr.setCell ⟨blk, off + k, none⟩ (enc y1)).setCell ⟨blk, off + jN, none⟩ (enc x1)).drew) := by rw [hx1, hy1]; exact S1.out.swapped HR.out k jN (by have := Hdk.out; omega) (by have := Hdk.out; omega)
          have hsd : dk.size = d0.size := by rw [Hdk.out]; exact Hs.out.symm
          have c1a := S1.out.c1 HR.out hsd k (by have := Hdk.out; omega)
          have c1b := S1.out.c1 HR.out hsd jN (by have := Hdk.out; omega)
          have f1a := S1.out.f1 HR.out hsd k (by have := Hdk.out; omega)
          have f1b := S1.out.f1 HR.out hsd jN (by have := Hdk.out; omega)
          obtain ⟨u1, c1c⟩ := S1.out.c2 HR.out hsd k jN (by have := Hdk.out; omega) (by have := Hdk.out; omega) (enc y1)
          rw [← hx1] at c1a
          rw [← hy1] at c1b
          clear S1 hx1 hy1 hsd
          go_wp2_with fail
          go_big_region_o
          clear c1a c1b c1c f1a f1b
          generalize ((wr.setCell ⟨blk, off + k, none⟩ (enc y1)).setCell ⟨blk, off + jN, none⟩ (enc x1)).drew = w3 at S3 ⊢
          go_wp2_with fail
          clear eb
          go_roundw
          case rel => exact ⟨jN, swp dk k jN, rfl, by have := HjN.out; omega, by have := HjN.out; omega, by rw [size_swp]; exact Hdk.out, Lib.hid (permIn_trans _ _ _ _ _ HP.out (swp_permIn _ _ _ _ _ (by omega) (by omega) (by have := HjN.out; omega) (by have := HjN.out; omega) (by have := Hdk.out; omega))), Lib.hid (by rw [HjN.out]; exact Rot.down (by omega) hkm (by have := Hdk.out; omega) Hr.out), S3⟩
          case measure => have := HjN.out; simp [intOf]; omega
        · have g1 : ¬ (i : Int) < (k : Int) := by omega
          obtain rfl : i = k := by omega
          have hpost : SymPost enc (ltOf cf) w0 blk off a b d (.returned (.tuple #[])) wr := ⟨rfl, dk, HP.out, by rw [Hbm.out]; exact merge2 HO.out Hs1.out (by omega) (by omega) Hr.out Hi.out Hj.out, S1.out⟩
          clear S1
          have Hpost := Lib.hid hpost
          clear hpost
          go_wp2_with fail
          go_end0
          exact Hpost.out
end Go.Proofs.Ytpncblagjkbemaa
end
