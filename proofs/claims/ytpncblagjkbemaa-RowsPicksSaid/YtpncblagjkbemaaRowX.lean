/- The program's Project and Rename. -/
import Derived.Test.YtpncblagjkbemaaRowW
import Derived.Test.YtpncblagjkbemaaRowU
import Derived.Test.YtpncblagjkbemaaRowOk
namespace Go.Proofs.Ytpncblagjkbemaa
open Go.RowKit
set_option linter.unusedVariables false
set_option linter.unusedSimpArgs false

def projErr (rc : List S) (l : List (List V)) (cols : List S) : Int := if mayRel rc l && withinB cols rc && onceB cols then madeErr cols (l.map fun x => pickL x (placesL cols rc)) else 2
def renErr (rc : List S) (l : List (List V)) (cols : List S) : Int := if mayRel rc l && decide (cols.length = rc.length) && onceB cols then madeErr cols l else 2
theorem may_len {cols : List S} {l : List (List V)} (h : mayRel cols l = true) : ∀ x ∈ l, x.length = cols.length := by
  intro x hx
  obtain ⟨i, hi, rfl⟩ := List.getElem_of_mem hx
  unfold mayRel at h
  rw [Bool.and_eq_true, List.all_eq_true] at h
  have := h.2 i (List.mem_range.2 hi)
  unfold mayAt at this
  rw [getDS l _ i hi, Bool.and_eq_true] at this
  simpa using this.1
theorem may_many {cols : List S} {l : List (List V)} (h : mayRel cols l = true) : l.length ≤ 100000 ∧ cols.length ≤ 32 := by
  unfold mayRel at h
  simp only [Bool.and_eq_true, decide_eq_true_eq] at h
  exact ⟨h.1.2, once_len h.1.1⟩
theorem map_fm {α β : Type} (f : α → β) (l : List α) : l.filterMap (fun x => some (f x)) = l.map f := by
  induction l with
  | nil => rfl
  | cons x r ih => simp [ih]
theorem placesK_any (lo hi lo2 hi2 : Nat) (cols among : List S) (vo va : Value) (w : World) (ho : Strs lo hi w vo cols) (hhi : hi ≤ w.heap.size) (ha : Strs lo2 hi2 w va among) (hhi2 : hi2 ≤ w.heap.size) (hlen : cols.length ≤ 1000000000000) (R : Ending → World → Prop)
    (hR : ∀ w' v' ks, Below w.heap.size w w' → OwnI w.heap.size w' v' ks → (withinB cols among = true → ks = placesL cols among) → R (.returned (.tuple #[v', .bool (withinB cols among)])) w') : Calls Try.prog 75 #[vo, va] w R := by
  refine places_any lo hi lo2 hi2 cols among vo va w ho hhi ha hhi2 hlen R (fun h w' hB => ?_) (fun h w' v' hB ho => ?_)
  · have := hR w' _ [] hB (Own.nil _ _ _ _ _) (fun e => by rw [h] at e; cases e)
    rw [h] at this
    exact this
  · have := hR w' v' _ hB ho (fun _ => rfl)
    rw [h] at this
    exact this
set_option maxRecDepth 100000 in
set_option maxHeartbeats 2000000 in
theorem Project1_any (lo hi lo2 hi2 b : Nat) (x : List V) (at' : List Int) (vx va : Value) (w : World) (hx : Row1 lo hi w vx x) (hhi : hi ≤ w.heap.size) (ha : Ints lo2 hi2 w va at') (hhi2 : hi2 ≤ w.heap.size) (hb : Blk w b [va] 84) (hok : AtOk x.length at') (hlen : at'.length ≤ 1000000000000) (R : Ending → World → Prop)
    (hR : ∀ w' v', Below w.heap.size w w' → OwnV w.heap.size w' v' (pickL x at') → R (.returned (.tuple #[v', .bool true])) w') : Calls Try.prog 76 #[vx, .pointer (some ⟨b, 0, none⟩)] w R := by
  have HR := Lib.hid hR
  have Hx := Lib.hid hx
  have Ha := Lib.hid ha
  obtain ⟨ax, cx, rfl, -, -, -, -⟩ := hx.form
  obtain ⟨aa, ca, rfl, -, -, -, -⟩ := ha.form
  have c0 := hb.cells.c1
  clear hR hx ha hb
  go_enter Try.func76, Try.ntmps76
  go_wp2_with fail
  refine pick_any lo hi lo2 hi2 x at' _ _ w Hx.out hhi Ha.out hhi2 hok hlen _ (fun w1 v1 hB1 ho1 => ?_)
  have hr := HR.out w1 v1 hB1 ho1
  obtain ⟨p1, c1, rfl⟩ := Own.slice ho1
  clear hB1 ho1
  go_wp2_with fail
  first | exact hr | exact fin hr rfl
set_option maxRecDepth 100000 in
set_option maxHeartbeats 4000000 in
theorem Project_any (lo hi lc hc l2 h2 : Nat) (rc : List S) (ac : Option Addr) (cc : Nat) (l : List (List V)) (lv : Value) (cols : List S) (cv : Value) (w : World) (hrc : Strs lc hc w (.slice ac rc.length cc) rc) (hhc : hc ≤ w.heap.size) (hv : Rws lo hi w lv l) (hhi : hi ≤ w.heap.size) (hcols : Strs l2 h2 w cv cols) (hh2 : h2 ≤ w.heap.size) (hlen : cols.length ≤ 1000000000000) (hll : l.length ≤ 1000000000000) (R : Ending → World → Prop)
    (hR : ∀ w' cv2 lv2 hs, Below w.heap.size w w' → OwnT w.heap.size w' cv2 (okL (projErr rc l cols) cols) → OwnR w.heap.size w' lv2 hs (okL (projErr rc l cols) (relCanon (l.map fun x => pickL x (placesL cols rc)))) → R (.returned (.tuple #[.agg #[cv2, lv2], .int .i64 (projErr rc l cols)])) w') :
    Calls Try.prog 30 #[.agg #[.slice ac rc.length cc, lv], cv] w R := by
  have HR := Lib.hid hR
  have Hv := Lib.hid hv
  have Hrc := Lib.hid hrc
  have Hc := Lib.hid hcols
  obtain ⟨av, cv2, rfl, -, -, -, -⟩ := hv.form
  obtain ⟨ak, ck, rfl, -, -, -, -⟩ := hcols.form
  have hkl := hcols.len
  have hrl := hrc.len
  clear hR hv hrc hcols
  have hs1 : (w.alloc (.cells #[.slice ac rc.length cc, .slice av l.length cv2] 34)).heap.size = w.heap.size + 1 := by simp
  have hB1 := alloc_below w (.cells #[.slice ac rc.length cc, .slice av l.length cv2] 34)
  have hb1 := Blk.new w [.slice ac rc.length cc, .slice av l.length cv2] 34 rfl
  have hB2 := alloc_below (w.alloc (.cells #[.slice ac rc.length cc, .slice av l.length cv2] 34)) (.cells #[.slice none 0 0, .slice none 0 0] 34)
  have hb2 := Blk.new (w.alloc (.cells #[.slice ac rc.length cc, .slice av l.length cv2] 34)) [.slice none 0 0, .slice none 0 0] 34 hs1.symm
  have hb12 := hb1.below hB2 hb1.lt
  have hB := hB1.trans (hB2.mono hB1.size)
  go_enter Try.func30, Try.ntmps30
  go_upto_region 1 with fail
  generalize (w.alloc (.cells #[.slice ac rc.length cc, .slice av l.length cv2] 34)).alloc (.cells #[.slice none 0 0, .slice none 0 0] 34) = w2 at *
  have HB := Lib.hid hB
  have Hb1 := Lib.hid hb12
  have Hb2 := Lib.hid hb2
  have hz2 := hB.size
  have hl1 := hb12.lt
  have hl2 := hb2.lt
  obtain ⟨c0, c1⟩ := hb12.cells.c2
  simp only [Nat.zero_add] at c1
  clear hB1 hb1 hs1 hB2 hb2 hb12 hB
  go_wp2_with fail
  refine placesK_any l2 h2 lc hc cols rc _ _ w2 (Sl.below Hc.out Strs.loc HB.out hh2) (by omega) (Sl.below Hrc.out Strs.loc HB.out hhc) (by omega) hlen _ (fun w3 v3 ks hB3 ho3 hks => ?_)
  obtain ⟨p3, q3, rfl⟩ := Own.slice ho3
  have Hks := Lib.hid hks
  have Ho3 := Lib.hid ho3
  have HB23 := Lib.hid hB3
  have hz3 := hB3.size
  clear hB3 ho3 hks c0 c1
  go_upto_region 2 with fail
  have hBa := alloc_below w3 (.cells #[.slice p3 ks.length q3] 84)
  have hba := Blk.new w3 [.slice p3 ks.length q3] 84 rfl
  generalize w3.alloc (.cells #[.slice p3 ks.length q3] 84) = w4 at *
  have HB34 := Lib.hid hBa
  have Hb4 := Lib.hid hba
  have hz4 := hBa.size
  have hl4 := hba.lt
  have HB24 := Lib.hid (HB23.out.trans (HB34.out.mono hz3))
  have HB4 := Lib.hid (HB.out.trans (HB24.out.mono hz2))
  obtain ⟨c0, c1⟩ := (Hb1.out.below HB24.out hl1).cells.c2
  simp only [Nat.zero_add] at c1
  clear hBa hba
  go_wp2_with fail
  refine May_any lo hi lc hc rc _ _ l _ w4 (Sl.below Hrc.out Strs.loc HB4.out hhc) (by omega) (Sl.below Hv.out rowE_loc HB4.out hhi) (by omega) _ (fun w5 hB5 => ?_)
  have HB45 := Lib.hid hB5
  have hz5 := hB5.size
  have HB25 := Lib.hid (HB24.out.trans (hB5.mono (by omega)))
  have HB5 := Lib.hid (HB4.out.trans (hB5.mono (by omega)))
  clear hB5 c0 c1
  cases hm : mayRel rc l
  · have hbE := Hb2.out.below HB25.out hl2
    obtain ⟨e0, e1⟩ := hbE.cells.c2
    have f0 := hbE.free 0
    have f1 := hbE.free 1
    simp only [Nat.zero_add] at e1
    have he : projErr rc l cols = 2 := by unfold projErr; rw [hm]; rfl
    obtain ⟨t1, t2, t3, t4⟩ := relTail (pc := none) (pr := none) (qc := 0) (qr := 0) hbE (Nat.le_succ _) HB5.out (Own.nil _ _ _ _ _) (OwnR.nil _ _)
    have hr := HR.out _ _ _ [] t1 (by rw [he]; exact t2) (by rw [he]; exact t3)
    rw [he] at hr
    have Hr := Lib.hid hr
    have Ht := Lib.hid t4
    clear hm hbE hr t1 t2 t3 t4 he
    go_wp2_with fail
    exact ret_cell_tmp rfl rfl Ht.out rfl rfl Hr.out
  have Hm := Lib.hid hm
  clear hm
  cases hw : withinB cols rc
  · have hbE := Hb2.out.below HB25.out hl2
    obtain ⟨e0, e1⟩ := hbE.cells.c2
    have f0 := hbE.free 0
    have f1 := hbE.free 1
    simp only [Nat.zero_add] at e1
    have he : projErr rc l cols = 2 := by unfold projErr; rw [hw, Hm.out]; rfl
    obtain ⟨t1, t2, t3, t4⟩ := relTail (pc := none) (pr := none) (qc := 0) (qr := 0) hbE (Nat.le_succ _) HB5.out (Own.nil _ _ _ _ _) (OwnR.nil _ _)
    have hr := HR.out _ _ _ [] t1 (by rw [he]; exact t2) (by rw [he]; exact t3)
    rw [he] at hr
    have Hr := Lib.hid hr
    have Ht := Lib.hid t4
    clear hw hbE hr t1 t2 t3 t4 he
    go_wp2_with fail
    exact ret_cell_tmp rfl rfl Ht.out rfl rfl Hr.out
  have Hw := Lib.hid hw
  obtain rfl := Hks.out hw
  clear hw Hks
  go_wp2_with fail
  refine once_any l2 h2 cols _ w5 (Sl.below Hc.out Strs.loc HB5.out hh2) _ ?_
  cases hon : onceB cols
  · have hbE := Hb2.out.below HB25.out hl2
    obtain ⟨e0, e1⟩ := hbE.cells.c2
    have f0 := hbE.free 0
    have f1 := hbE.free 1
    simp only [Nat.zero_add] at e1
    have he : projErr rc l cols = 2 := by unfold projErr; rw [hon, Hm.out, Hw.out]; rfl
    obtain ⟨t1, t2, t3, t4⟩ := relTail (pc := none) (pr := none) (qc := 0) (qr := 0) hbE (Nat.le_succ _) HB5.out (Own.nil _ _ _ _ _) (OwnR.nil _ _)
    have hr := HR.out _ _ _ [] t1 (by rw [he]; exact t2) (by rw [he]; exact t3)
    rw [he] at hr
    have Hr := Lib.hid hr
    have Ht := Lib.hid t4
    clear hon hbE hr t1 t2 t3 t4 he
    go_wp2_with fail
    exact ret_cell_tmp rfl rfl Ht.out rfl rfl Hr.out
  have he : projErr rc l cols = madeErr cols (l.map fun x => pickL x (placesL cols rc)) := by unfold projErr; rw [hon, Hm.out, Hw.out]; rfl
  rw [he] at HR
  clear he hon
  obtain ⟨c0, c1⟩ := (Hb1.out.below HB25.out hl1).cells.c2
  simp only [Nat.zero_add] at c1
  go_wp2_with fail
  refine gather_any lo hi l _ 76 #[.pointer (some ⟨w3.heap.size, 0, none⟩)] (fun x => some (pickL x (placesL cols rc))) w5 (Sl.below Hv.out rowE_loc HB5.out hhi) (by omega) (by omega) (enters_of Try.func76 (by kernel_rfl) rfl) (fun k hk xv w' R' hB' hx' hR' => ?_) _ (fun w6 v6 hs6 hB6 h6 => ?_)
  · have hz' := hB'.size
    have hBw := HB45.out.trans (hB'.mono hz5)
    refine Project1_any lo hi w2.heap.size w3.heap.size w3.heap.size l[k] (placesL cols rc) xv _ w' hx' (by omega) (Sl.below (OwnI.sl Ho3.out) Ints.loc (HB34.out.trans (hBw.mono hz4)) (Nat.le_refl _)) (by omega) (Hb4.out.below hBw hl4) (by rw [may_len Hm.out _ (List.getElem_mem hk)]; exact places_ok Hw.out) (by unfold placesL; rw [List.length_map]; exact hlen) R' (fun w'' yv hB'' ho'' => ?_)
    obtain ⟨a, c, e⟩ := Own.slice ho''
    exact hR' w'' yv hB'' (fun _ => ho'') ⟨a, _, c, e⟩
  rw [map_fm] at h6
  obtain ⟨p6, q6, e6⟩ := Own.slice h6.own
  subst e6
  have HB6 := Lib.hid hB6
  have H6 := Lib.hid h6
  have hz6 := hB6.size
  have HBw6 := Lib.hid (HB5.out.trans (hB6.mono (by omega)))
  clear hB6 h6 c0 c1
  go_wp2_with fail
  refine madeK_any w5.heap.size l2 h2 cols _ _ hs6 _ w6 (Sl.below Hc.out Strs.loc HBw6.out hh2) (by omega) hz6 H6.out (by rw [List.length_map]; exact hll) _ (fun w7 cv7 lv7 hs7 hB7 hz7 hT7 hO7 => ?_)
  generalize hE : madeErr cols (l.map fun x => pickL x (placesL cols rc)) = err at *
  generalize okL err cols = oc at *
  generalize okL err (relCanon (l.map fun x => pickL x (placesL cols rc))) = ol at *
  obtain ⟨p7, q7, rfl⟩ := Own.slice hT7
  obtain ⟨p8, q8, e8⟩ := Own.slice hO7.own
  rw [hO7.len] at e8
  subst e8
  have hB57 : Below w5.heap.size w5 w7 := HB6.out.trans hB7
  have hb7 := Hb2.out.below (HB25.out.trans (hB57.mono (by omega))) hl2
  obtain ⟨e0, e1⟩ := hb7.cells.c2
  have f0 := hb7.free 0
  have f1 := hb7.free 1
  simp only [Nat.zero_add] at e1
  obtain ⟨t1, t2, t3, t4⟩ := relTail hb7 (Nat.le_succ _) (HB5.out.trans (hB57.mono (by omega))) (Own.lower hT7 (by omega)) (hO7.lower (by omega))
  have hr := HR.out _ _ _ _ t1 t2 t3
  have Hr := Lib.hid hr
  have Ht := Lib.hid t4
  clear hr t1 t2 t3 t4 hb7 hB57 hB7 hT7 hO7
  go_wp2_with fail
  exact ret_cell_tmp rfl rfl Ht.out rfl rfl Hr.out
set_option maxRecDepth 100000 in
set_option maxHeartbeats 4000000 in
theorem Rename_any (lo hi lc hc l2 h2 : Nat) (rc : List S) (ac : Option Addr) (cc : Nat) (l : List (List V)) (lv : Value) (cols : List S) (cv : Value) (w : World) (hrc : Strs lc hc w (.slice ac rc.length cc) rc) (hhc : hc ≤ w.heap.size) (hv : Rws lo hi w lv l) (hhi : hi ≤ w.heap.size) (hcols : Strs l2 h2 w cv cols) (hh2 : h2 ≤ w.heap.size) (hll : l.length ≤ 1000000000000) (R : Ending → World → Prop)
    (hR : ∀ w' cv2 lv2 hs, Below w.heap.size w w' → OwnT w.heap.size w' cv2 (okL (renErr rc l cols) cols) → OwnR w.heap.size w' lv2 hs (okL (renErr rc l cols) (relCanon l)) → R (.returned (.tuple #[.agg #[cv2, lv2], .int .i64 (renErr rc l cols)])) w') :
    Calls Try.prog 33 #[.agg #[.slice ac rc.length cc, lv], cv] w R := by
  have HR := Lib.hid hR
  have Hv := Lib.hid hv
  have Hrc := Lib.hid hrc
  have Hc := Lib.hid hcols
  obtain ⟨av, cv2, rfl, -, -, -, -⟩ := hv.form
  obtain ⟨ak, ck, rfl, -, -, -, -⟩ := hcols.form
  have hkl := hcols.len
  have hrl := hrc.len
  clear hR hv hrc hcols
  have hs1 : (w.alloc (.cells #[.slice ac rc.length cc, .slice av l.length cv2] 34)).heap.size = w.heap.size + 1 := by simp
  have hB1 := alloc_below w (.cells #[.slice ac rc.length cc, .slice av l.length cv2] 34)
  have hb1 := Blk.new w [.slice ac rc.length cc, .slice av l.length cv2] 34 rfl
  have hB2 := alloc_below (w.alloc (.cells #[.slice ac rc.length cc, .slice av l.length cv2] 34)) (.cells #[.slice none 0 0, .slice none 0 0] 34)
  have hb2 := Blk.new (w.alloc (.cells #[.slice ac rc.length cc, .slice av l.length cv2] 34)) [.slice none 0 0, .slice none 0 0] 34 hs1.symm
  have hb12 := hb1.below hB2 hb1.lt
  have hB := hB1.trans (hB2.mono hB1.size)
  go_enter Try.func33, Try.ntmps33
  go_upto_region 1 with fail
  generalize (w.alloc (.cells #[.slice ac rc.length cc, .slice av l.length cv2] 34)).alloc (.cells #[.slice none 0 0, .slice none 0 0] 34) = w2 at *
  have HB := Lib.hid hB
  have Hb1 := Lib.hid hb12
  have Hb2 := Lib.hid hb2
  have hz2 := hB.size
  have hl1 := hb12.lt
  have hl2 := hb2.lt
  obtain ⟨c0, c1⟩ := hb12.cells.c2
  simp only [Nat.zero_add] at c1
  clear hB1 hb1 hs1 hB2 hb2 hb12 hB
  go_wp2_with fail
  refine May_any lo hi lc hc rc _ _ l _ w2 (Sl.below Hrc.out Strs.loc HB.out hhc) (by omega) (Sl.below Hv.out rowE_loc HB.out hhi) (by omega) _ (fun w5 hB5 => ?_)
  have HB25 := Lib.hid hB5
  have hz5 := hB5.size
  have HB5 := Lib.hid (HB.out.trans (hB5.mono (by omega)))
  clear hB5 c0 c1
  cases hm : mayRel rc l
  · have hbE := Hb2.out.below HB25.out hl2
    obtain ⟨e0, e1⟩ := hbE.cells.c2
    have f0 := hbE.free 0
    have f1 := hbE.free 1
    simp only [Nat.zero_add] at e1
    have he : renErr rc l cols = 2 := by unfold renErr; rw [hm]; rfl
    obtain ⟨t1, t2, t3, t4⟩ := relTail (pc := none) (pr := none) (qc := 0) (qr := 0) hbE (Nat.le_succ _) HB5.out (Own.nil _ _ _ _ _) (OwnR.nil _ _)
    have hr := HR.out _ _ _ [] t1 (by rw [he]; exact t2) (by rw [he]; exact t3)
    rw [he] at hr
    have Hr := Lib.hid hr
    have Ht := Lib.hid t4
    clear hm hbE hr t1 t2 t3 t4 he
    go_wp2_with fail
    exact ret_cell_tmp rfl rfl Ht.out rfl rfl Hr.out
  have Hm := Lib.hid hm
  have hml := (may_len hm)
  have Hml := Lib.hid hml
  clear hm hml
  obtain ⟨c0, c1⟩ := (Hb1.out.below HB25.out hl1).cells.c2
  simp only [Nat.zero_add] at c1
  by_cases hle : cols.length = rc.length
  case neg =>
    have c2 : ((cols.length : Int) != (rc.length : Int)) = true := by simp; omega
    have hbE := Hb2.out.below HB25.out hl2
    obtain ⟨e0, e1⟩ := hbE.cells.c2
    have f0 := hbE.free 0
    have f1 := hbE.free 1
    simp only [Nat.zero_add] at e1
    have he : renErr rc l cols = 2 := by unfold renErr; rw [decide_eq_false hle]; simp
    obtain ⟨t1, t2, t3, t4⟩ := relTail (pc := none) (pr := none) (qc := 0) (qr := 0) hbE (Nat.le_succ _) HB5.out (Own.nil _ _ _ _ _) (OwnR.nil _ _)
    have hr := HR.out _ _ _ [] t1 (by rw [he]; exact t2) (by rw [he]; exact t3)
    rw [he] at hr
    have Hr := Lib.hid hr
    have Ht := Lib.hid t4
    clear hle hbE hr t1 t2 t3 t4 he
    go_wp2_with fail
    exact ret_cell_tmp rfl rfl Ht.out rfl rfl Hr.out
  have Hle : Hid (cols.length = rc.length) := Lib.hid hle
  have c2 : ((cols.length : Int) != (rc.length : Int)) = false := by simp; omega
  clear hle
  go_wp2_with fail
  refine once_any l2 h2 cols _ w5 (Sl.below Hc.out Strs.loc HB5.out hh2) _ ?_
  cases hon : onceB cols
  · have hbE := Hb2.out.below HB25.out hl2
    obtain ⟨e0, e1⟩ := hbE.cells.c2
    have f0 := hbE.free 0
    have f1 := hbE.free 1
    simp only [Nat.zero_add] at e1
    have he : renErr rc l cols = 2 := by unfold renErr; rw [hon]; simp
    obtain ⟨t1, t2, t3, t4⟩ := relTail (pc := none) (pr := none) (qc := 0) (qr := 0) hbE (Nat.le_succ _) HB5.out (Own.nil _ _ _ _ _) (OwnR.nil _ _)
    have hr := HR.out _ _ _ [] t1 (by rw [he]; exact t2) (by rw [he]; exact t3)
    rw [he] at hr
    have Hr := Lib.hid hr
    have Ht := Lib.hid t4
    clear hon hbE hr t1 t2 t3 t4 he
    go_wp2_with fail
    exact ret_cell_tmp rfl rfl Ht.out rfl rfl Hr.out
  have he : renErr rc l cols = madeErr cols l := by unfold renErr; rw [hon, Hm.out, decide_eq_true Hle.out]; rfl
  rw [he] at HR
  have hcl := once_len hon
  clear he hon
  go_wp2_with fail
  refine gather_any lo hi l _ 72 #[] some w5 (Sl.below Hv.out rowE_loc HB5.out hhi) (by omega) (by omega) (enters_of Try.func72 (by kernel_rfl) rfl) (fun k hk xv w' R' hB' hx' hR' => ?_) _ (fun w6 v6 hs6 hB6 h6 => ?_)
  · have hz' := hB'.size
    refine own_any lo hi l[k] xv w' hx' (by omega) (by rw [Hml.out _ (List.getElem_mem hk), ← Hle.out]; omega) R' (fun w'' yv hB'' ho'' => ?_)
    obtain ⟨a, c, e⟩ := Own.slice ho''
    exact hR' w'' yv hB'' (fun _ => ho'') ⟨a, _, c, e⟩
  rw [gather_own] at h6
  obtain ⟨p6, q6, e6⟩ := Own.slice h6.own
  subst e6
  have HB6 := Lib.hid hB6
  have H6 := Lib.hid h6
  have hz6 := hB6.size
  have HBw6 := Lib.hid (HB5.out.trans (hB6.mono (by omega)))
  clear hB6 h6 c0 c1
  go_wp2_with fail
  refine madeK_any w5.heap.size l2 h2 cols _ _ hs6 _ w6 (Sl.below Hc.out Strs.loc HBw6.out hh2) (by omega) hz6 H6.out hll _ (fun w7 cv7 lv7 hs7 hB7 hz7 hT7 hO7 => ?_)
  generalize hE : madeErr cols l = err at *
  generalize okL err cols = oc at *
  generalize okL err (relCanon l) = ol at *
  obtain ⟨p7, q7, rfl⟩ := Own.slice hT7
  obtain ⟨p8, q8, e8⟩ := Own.slice hO7.own
  rw [hO7.len] at e8
  subst e8
  have hB57 : Below w5.heap.size w5 w7 := HB6.out.trans hB7
  have hb7 := Hb2.out.below (HB25.out.trans (hB57.mono (by omega))) hl2
  obtain ⟨e0, e1⟩ := hb7.cells.c2
  have f0 := hb7.free 0
  have f1 := hb7.free 1
  simp only [Nat.zero_add] at e1
  obtain ⟨t1, t2, t3, t4⟩ := relTail hb7 (Nat.le_succ _) (HB5.out.trans (hB57.mono (by omega))) (Own.lower hT7 (by omega)) (hO7.lower (by omega))
  have hr := HR.out _ _ _ _ t1 t2 t3
  have Hr := Lib.hid hr
  have Ht := Lib.hid t4
  clear hr t1 t2 t3 t4 hb7 hB57 hB7 hT7 hO7
  go_wp2_with fail
  exact ret_cell_tmp rfl rfl Ht.out rfl rfl Hr.out
end Go.Proofs.Ytpncblagjkbemaa
