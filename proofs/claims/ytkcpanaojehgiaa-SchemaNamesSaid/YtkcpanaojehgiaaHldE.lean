/- schema.Holds. -/
import Derived.Test.YtkcpanaojehgiaaHldD
namespace Go.Proofs.Ytkcpanaojehgiaa
open Go.RowKit Go.ChangeMaps Go.WideMaps Go.Maps
set_option linter.unusedVariables false
set_option linter.unusedSimpArgs false

def mapOf (xs : List Attr) : Int → Attr := xs.foldl putA (fun _ => zeroA)
theorem mapOf_take (xs : List Attr) (k : Nat) (h : k < xs.length) : mapOf (xs.take (k + 1)) = putA (mapOf (xs.take k)) xs[k] := by
  unfold mapOf
  rw [List.take_succ_eq_append_getElem h, List.foldl_append]
  rfl
/-- The first row that facts break, or 0; as the code asks. -/
def rowC (l : List Ft) (A : List Attr) (f : Int → Attr) : Int :=
  if l.any (fun x => unknownB (f x.a) x) then 71
  else if (l.any fun x => !typedB (f x.a) x) || !namedB l A then 72
  else if clashB l (oneB f) then 73
  else if clashB l (uniqB f) then 74
  else if l.any (fun x => lateB (f x.a) x) then 75
  else if A.any partB then 76 else 0
def holdsC (l : List Ft) : Int := if ofErr l ≠ 0 then ofErr l else rowC l (attrsOf l) (mapOf (attrsOf l))
theorem factsB_may {l : List Ft} (h : factsB l = true) : ∀ x ∈ l, x.may = true := by
  intro x hx
  obtain ⟨i, hi, rfl⟩ := List.getElem_of_mem hx
  have := factsB_at h i hi
  unfold ftOk at this
  rw [getD_at l _ i hi, Bool.and_eq_true] at this
  exact this.1
theorem may_a {x : Ft} (h : x.may = true) : 0 ≤ x.a ∧ x.a < 9007199254740992 := by
  simp only [Ft.may, mayD, Bool.and_eq_true, decide_eq_true_eq] at h
  exact ⟨h.1.1.1.1.2, h.1.1.1.2⟩
theorem may_e {x : Ft} (h : x.may = true) : 0 ≤ x.e ∧ x.e < 9007199254740992 := by
  simp only [Ft.may, mayD, Bool.and_eq_true, decide_eq_true_eq] at h
  exact ⟨h.1.1.1.1.1.1, h.1.1.1.1.1.2⟩
theorem may_sp {x : Ft} (h : x.may = true) : setB x.sp = true := by
  simp only [Ft.may, Bool.and_eq_true] at h
  exact h.2
theorem may_ne {x : Ft} (h : x.may = true) : x.sp ≠ [] := by
  simp only [Ft.may, Bool.and_eq_true, Bool.not_eq_true'] at h
  intro e
  rw [e] at h
  exact absurd h.1.2 (by simp)
theorem madeO_id {e : Int} {g : List Ft} {a : Attr} (h : madeO e g = some a) : a.id = e ∧ 10 ≤ e ∧ 1 ≤ a.type ∧ a.type ≤ 7 := by
  unfold madeO at h
  split at h
  · split at h
    · rename_i hc
      injection h with h
      rw [← h]
      exact ⟨rfl, hc.1, hc.2.2.2.1, hc.2.2.2.2⟩
    · cases h
  · cases h
theorem attrs_id {l : List Ft} (h : factsB l = true) : ∀ a ∈ attrsOf l, 0 ≤ a.id ∧ a.id < 9007199254740992 := by
  intro a ha
  rcases List.mem_append.1 ha with ha | ha
  · simp only [builtinL, List.mem_cons, List.not_mem_nil, or_false] at ha
    rcases ha with rfl | rfl | rfl | rfl | rfl | rfl | rfl <;> decide
  · obtain ⟨i, hi, h2⟩ := List.mem_filterMap.1 ha
    have hi := List.mem_range.1 hi
    unfold firstO at h2
    split at h2
    · cases h2
    · rw [(madeO_id h2).1, getD_at l _ i hi]
      exact may_e (factsB_may h _ (List.getElem_mem hi))
set_option maxRecDepth 100000 in
set_option maxHeartbeats 8000000 in
theorem Holds_any (lo hi : Nat) (l : List Ft) (v : Value) (w : World) (hv : Fts lo hi w v l) (hhi : hi ≤ w.heap.size) (hlen : l.length ≤ 2000000000000) (hl : ∀ x ∈ l, x.v.s.length ≤ 9223372036854775807) (hs : ∀ x ∈ l, x.sp.length ≤ 2000000000) (R : Ending → World → Prop)
    (hR : ∀ w', Below w.heap.size w w' → R (.returned (.int .i64 (holdsC l))) w') : Calls Try.prog 21 #[v] w R := by
  have hmm := @run_makeMap Try.prog
  have HR := Lib.hid hR
  have Hv := Lib.hid hv
  have Hl := Lib.hid hl
  have Hs := Lib.hid hs
  obtain ⟨av, cv, rfl, -, -, -, -⟩ := hv.form
  clear hR hv hl hs
  have hB0 := alloc_below w (.cells #[.slice av l.length cv] 29)
  have hb0 := Blk.new w [.slice av l.length cv] 29 rfl
  go_enter Try.func21, Try.ntmps21
  go_upto_region 1 with fail
  generalize w.alloc (.cells #[.slice av l.length cv] 29) = w0 at *
  have c0 := hb0.cells.c1
  have Hb0 := Lib.hid hb0
  have HB0 := Lib.hid hB0
  have hz0 := hB0.size
  have hbl := hb0.lt
  clear hB0 hb0
  go_wp2_with fail
  refine Of_any lo hi l _ w0 (Sl.below Hv.out ftE_loc HB0.out hhi) (by omega) hlen Hl.out _ (fun w1 v1 hB1 ho1 => ?_)
  have HB1 := Lib.hid (HB0.out.trans (hB1.mono hz0))
  have Hb1 := Lib.hid (Hb0.out.below hB1 hbl)
  have hz1 := HB1.out.size
  have hz01 := hB1.size
  have Ho1 := Lib.hid ho1
  obtain ⟨p1, c1, rfl⟩ := Own.slice ho1
  clear c0 hB1 ho1
  by_cases he : ofErr l = 0
  case neg =>
    have hr := HR.out w1 HB1.out
    unfold holdsC at hr
    rw [if_pos he] at hr
    have g1 : (ofErr l != 0) = true := by simp [he]
    generalize ofErr l = er at *
    generalize (ofAttrs l).length = m at *
    clear he
    go_wp2_with fail
    first | exact hr | exact fin hr rfl
  have hok : factsB l = true := by
    cases h : factsB l
    · rw [ofErr, h] at he; simp at he
    · rfl
  have Hmay := Lib.hid (factsB_may hok)
  have Hid' := Lib.hid (attrs_id hok)
  have H2 := HR.out
  unfold holdsC at H2
  rw [if_neg (by rw [he]; simp)] at H2
  have Ho := Ho1.out
  unfold ofAttrs at Ho
  rw [if_pos he] at Ho
  rw [show ofAttrs l = attrsOf l by unfold ofAttrs; rw [if_pos he], he]
  have hal : (attrsOf l).length ≤ 2000000000007 := by have := attrsOf_count l; omega
  have HO := Lib.hid Ho
  have HR2 := Lib.hid H2
  clear he hok H2 Ho HR Ho1
  generalize attrsOf l = A at *
  have hB2 := alloc_below w1 (.map #[] 0)
  have hm2 := MapA.new w1
  have hs2 : (w1.alloc (.map #[] 0)).heap.size = w1.heap.size + 1 := by simp
  have hB3 := alloc_below (w1.alloc (.map #[] 0)) (.cells #[.map (some w1.heap.size)] 67)
  have hb3 := Blk.new (w1.alloc (.map #[] 0)) [.map (some w1.heap.size)] 67 hs2.symm
  have Hm3 := Lib.hid (hm2.kept hB3)
  have HB3 := Lib.hid (HB1.out.trans ((hB2.trans (hB3.mono hB2.size)).mono hz1))
  have HBo3 := Lib.hid (hB2.trans (hB3.mono hB2.size))
  clear hB2 hm2 hB3
  go_upto_region 5 with fail
  generalize (w1.alloc (.map #[] 0)).alloc (.cells #[.map (some w1.heap.size)] 67) = w3 at *
  have Hb3 := Lib.hid hb3
  have hb3l := hb3.lt
  have hm3l := Hm3.out.lt
  have hO3z := HBo3.out.size
  clear hb3
  go_wp2_with fail
  go_loopw [7, 20] (fun _ t20 wr => ∃ k : Nat, k ≤ A.length ∧ t20 = .int .i64 k ∧ MapA wr w1.heap.size k (mapOf (A.take k)) ∧ Below w1.heap.size w1 wr ∧ Blk wr (w1.heap.size + 1) [.map (some w1.heap.size)] 67) (fun _ t20 _ => A.length - (intOf t20).toNat)
  case atStart => exact ⟨0, Nat.zero_le _, rfl, Hm3.out, HBo3.out, Hb3.out⟩
  case round =>
    obtain ⟨k, hk, rfl, hm, hB, hbm⟩ := hrel
    obtain ⟨wo, ewo⟩ : ∃ x, x = wr := ⟨_, rfl⟩
    subst ewo
    have HB := Lib.hid hB
    have hz := hB.size
    have Hbm := Lib.hid hbm
    have kk0 : (0 : Int) ≤ (k : Int) := by omega
    clear hbm
    by_cases hlt : k < A.length
    · have HOk : OwnA w0.heap.size wo _ A := Own.kept HO.out hB
      obtain ⟨ao', cap', e', -, -, -, hc⟩ := HOk.attrs.form
      injection e' with e1 e2 e3
      subst e1 e3
      obtain ⟨b, off, rfl, hb1, hb2, hcc⟩ := hc k hlt
      obtain ⟨cs, _, hcs, rfl⟩ := hcc k hlt
      obtain ⟨h0, h1, h2, h3, h4, h5, h6⟩ := hcs.c7
      have kkl : (k : Int) < (A.length : Int) := by omega
      have Hst := Lib.hid (mapOf_take A k hlt)
      have hid := Hid'.out A[k] (List.getElem_mem hlt)
      clear hcs hc hcc hB HOk
      generalize A[k] = x at *
      have hkey : keyOf Try.prog 2 (.int .i64 x.id) = some (.int .i64 x.id) := keyOf_int_mk Try.underlying2 (wfI hid.1 hid.2)
      have hal2 := alloc_below wo (.cells #[.int .i64 x.id, .string ⟨x.name.toArray⟩, .int .i64 x.type, .bool x.many, .int .i64 x.unique, .bool x.part, .bool x.index] 24)
      have hbk := Blk.new wo [.int .i64 x.id, .string ⟨x.name.toArray⟩, .int .i64 x.type, .bool x.many, .int .i64 x.unique, .bool x.part, .bool x.index] 24 rfl
      have m0 := (Hbm.out.below hal2 Hbm.out.lt).cells.c1
      have Hbm2 := Lib.hid (Hbm.out.below hal2 Hbm.out.lt)
      have hm2 := hm.kept hal2
      have HB2 := Lib.hid (HB.out.trans (hal2.mono hz))
      go_upto_region 8 with fail
      generalize wo.alloc (.cells #[.int .i64 x.id, .string ⟨x.name.toArray⟩, .int .i64 x.type, .bool x.many, .int .i64 x.unique, .bool x.part, .bool x.index] 24) = wa at *
      obtain ⟨y0, y1, y2, y3, y4, y5, y6⟩ := hbk.cells.c7
      have hkl : k < maxLen := by simp only [maxLen]; omega
      obtain ⟨D, hown, hmap, hat⟩ := hm2.ex
      have Hmap := Lib.hid hmap
      have Hat := Lib.hid hat
      clear hal2 hm hm2 hbk h0 h1 h2 h3 h4 h5 h6 hmap hat
      go_wp2_with (first | (at_mapUpdate; refine wpList_mapUpdate_own _ rfl _ _ _ 67 rfl 2 24 lawI Try.underlying67 _ w1.heap.size k D rfl hown hkl _ _ _ rfl rfl hkey _ [] (show hA _ = _ from rfl) ?_) | go_in)
      intro w4 hown4 hgrow
      have Hm4 := Lib.hid (mapA_put (a := x) Hmap.out Hat.out hown4)
      have HB4 := Lib.hid (HB2.out.grown hgrow HB2.out.size (fun j hj => by injection hj with hj; omega))
      have Hb4 := Lib.hid (Hbm2.out.grown hgrow (by intro e; injection e with e; omega))
      clear hown4 hown hgrow y0 y1 y2 y3 y4 y5 y6 m0
      go_wp2_with fail
      go_roundw
      case rel => exact ⟨k + 1, by omega, by go_num, by rw [Hst.out]; exact Hm4.out, HB4.out, Hb4.out⟩
      case measure => simp [intOf]; omega
    · obtain rfl : k = A.length := by omega
      rw [List.take_length] at hm
      have Hm := Lib.hid hm
      clear hm
      have hz0w := HB.out.size
      have Hm0 := Lib.hid Hm.out
      have Hw0 := Lib.hid (HB1.out.trans (HB.out.mono hz1))
      have Hl0 := Lib.hid (Hb1.out.below HB.out (Nat.lt_of_lt_of_le hbl hz01))
      have HA0 : Hid (OwnA w0.heap.size wo (.slice p1 A.length c1) A) := Lib.hid (Own.kept HO.out hB)
      have Hbm0 := Lib.hid Hbm.out
      have hzw0 := Hw0.out.size
      obtain ⟨W0, eW0⟩ : ∃ x, x = wo := ⟨_, rfl⟩
      subst eW0
      have l0 := Hl0.out.cells.c1
      have m0 := Hbm0.out.cells.c1
      clear hB
      go_wp2_with fail
      refine Holds1_any lo hi l _ W0 (Sl.below Hv.out ftE_loc Hw0.out hhi) (by omega) w.heap.size (w1.heap.size + 1) w1.heap.size A.length (mapOf A) Hl0.out Hbm0.out Hm0.out (fun x hx => may_a (Hmay.out x hx)) 43 unknownB (enters_of Try.func43 (by kernel_rfl) rfl) (fun x hx sv w2 R2 hB2 hsv hR2 => ?_) _ (fun W1 hBn => ?_)
      · obtain ⟨sp, c, rfl, -⟩ := hsv.form
        exact Holds2_any (mapOf A x.a) x sp x.sp.length c w2 R2 hR2
      have Hw1 := Lib.hid (Hw0.out.trans (hBn.mono hzw0))
      have Hm1 := Lib.hid (Hm0.out.kept hBn)
      have Hl1 := Lib.hid (Hl0.out.below hBn Hl0.out.lt)
      have Hbm1 := Lib.hid (Hbm0.out.below hBn Hbm0.out.lt)
      have HA1 : Hid (OwnA w0.heap.size W1 (.slice p1 A.length c1) A) := Lib.hid (Own.kept HA0.out hBn)
      have hzw1 := Hw1.out.size
      clear hBn l0 m0
      have l0 := Hl1.out.cells.c1
      have m0 := Hbm1.out.cells.c1
      cases h71 : (l.any fun x => unknownB (mapOf A x.a) x)
      · have Hh71 := Lib.hid h71
        clear h71
        go_wp2_with fail
        refine Holds1_any lo hi l _ W1 (Sl.below Hv.out ftE_loc Hw1.out hhi) (by omega) w.heap.size (w1.heap.size + 1) w1.heap.size A.length (mapOf A) Hl1.out Hbm1.out Hm1.out (fun x hx => may_a (Hmay.out x hx)) 44 (fun a x => !typedB a x) (enters_of Try.func44 (by kernel_rfl) rfl) (fun x hx sv w2 R2 hB2 hsv hR2 => ?_) _ (fun W2 hBn => ?_)
        · obtain ⟨sp, c, rfl, -⟩ := hsv.form
          exact Holds3_any (mapOf A x.a) x sp x.sp.length c w2 R2 hR2
        have Hw2 := Lib.hid (Hw1.out.trans (hBn.mono hzw1))
        have Hm2 := Lib.hid (Hm1.out.kept hBn)
        have Hl2 := Lib.hid (Hl1.out.below hBn Hl1.out.lt)
        have Hbm2 := Lib.hid (Hbm1.out.below hBn Hbm1.out.lt)
        have HA2 : Hid (OwnA w0.heap.size W2 (.slice p1 A.length c1) A) := Lib.hid (Own.kept HA1.out hBn)
        have hzw2 := Hw2.out.size
        clear hBn l0 m0
        have l0 := Hl2.out.cells.c1
        have m0 := Hbm2.out.cells.c1
        cases h72 : (l.any fun x => !typedB (mapOf A x.a) x)
        · have Hh72 := Lib.hid h72
          clear h72
          go_wp2_with fail
          refine named_any lo hi w0.heap.size W2.heap.size l A _ _ W2 (Sl.below Hv.out ftE_loc Hw2.out hhi) (by omega) HA2.out.attrs (Nat.le_refl _) _ (fun W3 hBn => ?_)
          have Hw3 := Lib.hid (Hw2.out.trans (hBn.mono hzw2))
          have Hm3 := Lib.hid (Hm2.out.kept hBn)
          have Hl3 := Lib.hid (Hl2.out.below hBn Hl2.out.lt)
          have Hbm3 := Lib.hid (Hbm2.out.below hBn Hbm2.out.lt)
          have HA3 : Hid (OwnA w0.heap.size W3 (.slice p1 A.length c1) A) := Lib.hid (Own.kept HA2.out hBn)
          have hzw3 := Hw3.out.size
          clear hBn l0 m0
          have l0 := Hl3.out.cells.c1
          have m0 := Hbm3.out.cells.c1
          cases h72b : namedB l A
          · have Hh72b := Lib.hid h72b
            clear h72b
            have hr := HR2.out W3 Hw3.out
            rw [show rowC l A (mapOf A) = 72 by unfold rowC; rw [Hh71.out, Hh72.out, Hh72b.out]; rfl] at hr
            clear l0 m0
            go_wp2_with fail
            first | exact hr | exact fin hr rfl
          · have Hh72b := Lib.hid h72b
            clear h72b
            go_wp2_with fail
            refine clash_any lo hi l _ 48 _ (oneB (mapOf A)) W3 (Sl.below Hv.out ftE_loc Hw3.out hhi) (by omega) (enters_of Try.func48 (by kernel_rfl) rfl) (fun x hx y hy sx sy nx cx ny cy w2 R2 hB2 hR2 => ?_) (fun x hx => ⟨may_sp (Hmay.out x hx), Nat.le_trans (Hs.out x hx) (by omega)⟩) _ (fun W4 hBn => ?_)
            · exact Holds4_any x y sx sy nx cx ny cy (w1.heap.size + 1) w1.heap.size A.length (mapOf A) w2 (Hbm3.out.below hB2 Hbm3.out.lt) (Hm3.out.kept hB2) (may_a (Hmay.out x hx)).1 (may_a (Hmay.out x hx)).2 R2 hR2
            have Hw4 := Lib.hid (Hw3.out.trans (hBn.mono hzw3))
            have Hm4 := Lib.hid (Hm3.out.kept hBn)
            have Hl4 := Lib.hid (Hl3.out.below hBn Hl3.out.lt)
            have Hbm4 := Lib.hid (Hbm3.out.below hBn Hbm3.out.lt)
            have HA4 : Hid (OwnA w0.heap.size W4 (.slice p1 A.length c1) A) := Lib.hid (Own.kept HA3.out hBn)
            have hzw4 := Hw4.out.size
            clear hBn l0 m0
            have l0 := Hl4.out.cells.c1
            have m0 := Hbm4.out.cells.c1
            cases h73 : clashB l (oneB (mapOf A))
            · have Hh73 := Lib.hid h73
              clear h73
              go_wp2_with fail
              refine clash_any lo hi l _ 49 _ (uniqB (mapOf A)) W4 (Sl.below Hv.out ftE_loc Hw4.out hhi) (by omega) (enters_of Try.func49 (by kernel_rfl) rfl) (fun x hx y hy sx sy nx cx ny cy w2 R2 hB2 hR2 => ?_) (fun x hx => ⟨may_sp (Hmay.out x hx), Nat.le_trans (Hs.out x hx) (by omega)⟩) _ (fun W5 hBn => ?_)
              · exact Holds5_any x y sx sy nx cx ny cy (w1.heap.size + 1) w1.heap.size A.length (mapOf A) w2 (Hbm4.out.below hB2 Hbm4.out.lt) (Hm4.out.kept hB2) (may_a (Hmay.out x hx)).1 (may_a (Hmay.out x hx)).2 R2 hR2
              have Hw5 := Lib.hid (Hw4.out.trans (hBn.mono hzw4))
              have Hm5 := Lib.hid (Hm4.out.kept hBn)
              have Hl5 := Lib.hid (Hl4.out.below hBn Hl4.out.lt)
              have Hbm5 := Lib.hid (Hbm4.out.below hBn Hbm4.out.lt)
              have HA5 : Hid (OwnA w0.heap.size W5 (.slice p1 A.length c1) A) := Lib.hid (Own.kept HA4.out hBn)
              have hzw5 := Hw5.out.size
              clear hBn l0 m0
              have l0 := Hl5.out.cells.c1
              have m0 := Hbm5.out.cells.c1
              cases h74 : clashB l (uniqB (mapOf A))
              · have Hh74 := Lib.hid h74
                clear h74
                go_wp2_with fail
                refine Holds1_any lo hi l _ W5 (Sl.below Hv.out ftE_loc Hw5.out hhi) (by omega) w.heap.size (w1.heap.size + 1) w1.heap.size A.length (mapOf A) Hl5.out Hbm5.out Hm5.out (fun x hx => may_a (Hmay.out x hx)) 50 lateB (enters_of Try.func50 (by kernel_rfl) rfl) (fun x hx sv w2 R2 hB2 hsv hR2 => ?_) _ (fun W6 hBn => ?_)
                · have hw2 := hB2.size
                  exact Holds6_any lo hi (mapOf A x.a) x sv w2 hsv (by omega) (Hs.out x hx) (may_sp (Hmay.out x hx)) R2 hR2
                have Hw6 := Lib.hid (Hw5.out.trans (hBn.mono hzw5))
                have Hm6 := Lib.hid (Hm5.out.kept hBn)
                have Hl6 := Lib.hid (Hl5.out.below hBn Hl5.out.lt)
                have Hbm6 := Lib.hid (Hbm5.out.below hBn Hbm5.out.lt)
                have HA6 : Hid (OwnA w0.heap.size W6 (.slice p1 A.length c1) A) := Lib.hid (Own.kept HA5.out hBn)
                have hzw6 := Hw6.out.size
                clear hBn l0 m0
                have l0 := Hl6.out.cells.c1
                have m0 := Hbm6.out.cells.c1
                cases h75 : (l.any fun x => lateB (mapOf A x.a) x)
                · have Hh75 := Lib.hid h75
                  clear h75
                  go_wp2_with fail
                  refine ContainsFunc_attr w0.heap.size W6.heap.size _ A 52 _ partB W6 HA6.out.attrs (Nat.le_refl _) (enters_of Try.func52 (by kernel_rfl) rfl) (fun a w2 R2 hB2 hR2 => Holds7_any a w2 R2 hR2) _ (fun bb W7 hbb hBn => ?_)
                  have Hw7 := Lib.hid (Hw6.out.trans (hBn.mono hzw6))
                  have Hbb := Lib.hid hbb
                  clear hBn l0 m0 hbb
                  cases bb
                  · have hr := HR2.out W7 Hw7.out
                    rw [show rowC l A (mapOf A) = 0 by unfold rowC; rw [Hh71.out, Hh72.out, Hh72b.out, Hh73.out, Hh74.out, Hh75.out, ← Hbb.out]; rfl] at hr
                    go_wp2_with fail
                    first | exact hr | exact fin hr rfl
                  · have hr := HR2.out W7 Hw7.out
                    rw [show rowC l A (mapOf A) = 76 by unfold rowC; rw [Hh71.out, Hh72.out, Hh72b.out, Hh73.out, Hh74.out, Hh75.out, ← Hbb.out]; rfl] at hr
                    go_wp2_with fail
                    first | exact hr | exact fin hr rfl
                · have Hh75 := Lib.hid h75
                  clear h75
                  have hr := HR2.out W6 Hw6.out
                  rw [show rowC l A (mapOf A) = 75 by unfold rowC; rw [Hh71.out, Hh72.out, Hh72b.out, Hh73.out, Hh74.out, Hh75.out]; rfl] at hr
                  clear l0 m0
                  go_wp2_with fail
                  first | exact hr | exact fin hr rfl
              · have Hh74 := Lib.hid h74
                clear h74
                have hr := HR2.out W5 Hw5.out
                rw [show rowC l A (mapOf A) = 74 by unfold rowC; rw [Hh71.out, Hh72.out, Hh72b.out, Hh73.out, Hh74.out]; rfl] at hr
                clear l0 m0
                go_wp2_with fail
                first | exact hr | exact fin hr rfl
            · have Hh73 := Lib.hid h73
              clear h73
              have hr := HR2.out W4 Hw4.out
              rw [show rowC l A (mapOf A) = 73 by unfold rowC; rw [Hh71.out, Hh72.out, Hh72b.out, Hh73.out]; rfl] at hr
              clear l0 m0
              go_wp2_with fail
              first | exact hr | exact fin hr rfl
        · have Hh72 := Lib.hid h72
          clear h72
          have hr := HR2.out W2 Hw2.out
          rw [show rowC l A (mapOf A) = 72 by unfold rowC; rw [Hh71.out, Hh72.out]; rfl] at hr
          clear l0 m0
          go_wp2_with fail
          first | exact hr | exact fin hr rfl
      · have Hh71 := Lib.hid h71
        clear h71
        have hr := HR2.out W1 Hw1.out
        rw [show rowC l A (mapOf A) = 71 by unfold rowC; rw [Hh71.out]; rfl] at hr
        clear l0 m0
        go_wp2_with fail
        first | exact hr | exact fin hr rfl
end Go.Proofs.Ytkcpanaojehgiaa
