/- The program's Select. (Printed by rowsl.py.) -/
import Derived.Test.YtpncblagjkbemaaRowSe
namespace Go.Proofs.Ytpncblagjkbemaa
open Go.RowKit
set_option linter.unusedVariables false
set_option linter.unusedSimpArgs false

def selErr (rc : List S) (l : List (List V)) (keep : Nat → Bool) : Int := if mayRel rc l then madeErr rc (keepL keep l) else 2
theorem Only.setNew {A : Nat → Prop} {w w' : World} (h : Only A w w') {b : Nat} (hb : w.heap.size ≤ b) (i : Nat) (u : Value) : Only A w (w'.setCell ⟨b, i, none⟩ u) :=
  ⟨h.os, h.tape, h.output, by rw [show (w'.setCell ⟨b, i, none⟩ u).heap.size = w'.heap.size by simp]; exact h.size, fun k hk hn => (Below.heap_setCell _ _ _ _ (show k ≠ b by omega)).trans (h.block k hk hn)⟩
theorem keepL_len (keep : Nat → Bool) (l : List (List V)) : (keepL keep l).length ≤ l.length := keepTo_len keep l l.length
theorem run_eql_func_nil (h : FuncId) (capt : Array Value) (w : World) : (binOp .eql 61 (.func (.func h) #[] capt) .nilFunc).run Try.prog w = .ok (.bool false) w := by
  have hh : ∀ d, (Op.equalIn (d + 1) 61 (.func (.func h) #[] capt) .nilFunc).run Try.prog w = .ok false w := fun d => by simp [Op.equalIn, run_underlying Try.underlying61]
  simp only [binOp]
  simp [Op.equal, Op.maxDepth, hh 9999]
set_option maxRecDepth 100000 in
set_option maxHeartbeats 4000000 in
theorem Select_any (lo hi lc hc : Nat) (rc : List S) (ac : Option Addr) (cc : Nat) (l : List (List V)) (lv : Value) (h : FuncId) (capt : Array Value) (keep : Nat → Bool) (A : Nat → Prop) (J : Nat → World → Prop) (w : World) (hrc : Strs lc hc w (.slice ac rc.length cc) rc) (hhc : hc ≤ w.heap.size) (hv : Rws lo hi w lv l) (hhi : hi ≤ w.heap.size)
    (he : ∀ args w, (callFunc h args).run Try.prog w = .ok (.enter h args) w) (hA1 : ∀ b, A b → b < w.heap.size) (hA2 : ∀ b, A b → b < lo ∨ hi ≤ b) (hA3 : ∀ b, A b → b < lc ∨ hc ≤ b) (hJ0 : J 0 w) (hJB : ∀ k w1 w2, J k w1 → Below w.heap.size w1 w2 → w.heap.size ≤ w1.heap.size → J k w2)
    (hu : ∀ k (hk : k < l.length) zlo zv w' R, J k w' → w.heap.size ≤ zlo → zlo ≤ w'.heap.size → OwnV zlo w' zv l[k] → (∀ w'', J (k + 1) w'' → Only (fun b => A b ∨ zv.ownBlock = some b) w' w'' → R (.returned (.bool (keep k))) w'') → Calls Try.prog h (#[zv] ++ capt) w' R)
    (R : Ending → World → Prop) (hR : ∀ w' cv2 lv2 hs, Only A w w' → J (if mayRel rc l then l.length else 0) w' → OwnT w.heap.size w' cv2 (okL (selErr rc l keep) rc) → OwnR w.heap.size w' lv2 hs (okL (selErr rc l keep) (relCanon (keepL keep l))) → R (.returned (.tuple #[.agg #[cv2, lv2], .int .i64 (selErr rc l keep)])) w') :
    Calls Try.prog 35 #[.agg #[.slice ac rc.length cc, lv], .func (.func h) #[] capt] w R := by
  have HR := Lib.hid hR
  have Hv := Lib.hid hv
  have Hrc := Lib.hid hrc
  have HA1 := Lib.hid hA1
  have HA2 := Lib.hid hA2
  have HA3 := Lib.hid hA3
  have HJB := Lib.hid hJB
  have Hu := Lib.hid hu
  obtain ⟨av, cv2, rfl, -, -, -, -⟩ := hv.form
  clear hR hv hrc hA1 hA2 hA3 hJB hu
  obtain ⟨wa, ewa⟩ : ∃ x, x = w.alloc (.cells #[.slice ac rc.length cc, .slice av l.length cv2] 34) := ⟨_, rfl⟩
  obtain ⟨wb, ewb⟩ : ∃ x, x = wa.alloc (.cells #[.func (.func h) #[] capt] 61) := ⟨_, rfl⟩
  obtain ⟨w2, ew2⟩ : ∃ x, x = wb.alloc (.cells #[.slice none 0 0, .slice none 0 0] 34) := ⟨_, rfl⟩
  have sa : wa.heap.size = w.heap.size + 1 := by rw [ewa]; simp
  have sb : wb.heap.size = w.heap.size + 1 + 1 := by rw [ewb]; simp [sa]
  have hBa : Below w.heap.size w wa := by rw [ewa]; exact alloc_below _ _
  have hBb : Below wa.heap.size wa wb := by rw [ewb]; exact alloc_below _ _
  have hBc : Below wb.heap.size wb w2 := by rw [ew2]; exact alloc_below _ _
  have hb1 : Blk wa w.heap.size [.slice ac rc.length cc, .slice av l.length cv2] 34 := by rw [ewa]; exact Blk.new w [.slice ac rc.length cc, .slice av l.length cv2] _ rfl
  have hb2 : Blk wb (w.heap.size + 1) [.func (.func h) #[] capt] 61 := by rw [ewb]; exact Blk.new wa [.func (.func h) #[] capt] _ sa.symm
  have hb3 : Blk w2 (w.heap.size + 1 + 1) [.slice none 0 0, .slice none 0 0] 34 := by rw [ew2]; exact Blk.new wb [.slice none 0 0, .slice none 0 0] _ sb.symm
  have hb1 := (hb1.below hBb hb1.lt).below hBc (by omega)
  have hb2 := hb2.below hBc hb2.lt
  have hB := hBa.trans ((hBb.mono hBa.size).trans (hBc.mono (by omega)))
  go_enter Try.func35, Try.ntmps35
  go_upto_region 1 with fail
  rw [← ewa, ← ewb, ← ew2]
  clear ewa ewb ew2 hBa hBb hBc sa sb
  have HB := Lib.hid hB
  have Hb1 := Lib.hid hb1
  have Hb2 := Lib.hid hb2
  have Hb3 := Lib.hid hb3
  have hz2 := hB.size
  have hl3 := hb3.lt
  obtain ⟨c0, c1⟩ := hb1.cells.c2
  simp only [Nat.zero_add] at c1
  clear hb1 hb2 hb3 hB
  go_wp2_with fail
  refine May_any lo hi lc hc rc _ _ l _ w2 (Sl.below Hrc.out Strs.loc HB.out hhc) (by omega) (Sl.below Hv.out rowE_loc HB.out hhi) (by omega) _ (fun w5 hB5 => ?_)
  have HB25 := Lib.hid hB5
  have hz5 := hB5.size
  have HB5 := Lib.hid (HB.out.trans (hB5.mono (by omega)))
  have hl5 : w.heap.size + 1 + 1 < w5.heap.size := by omega
  have Hbx := Lib.hid (Hb1.out.below hB5 (by omega))
  have Hbf := Lib.hid (Hb2.out.below hB5 (by omega))
  have Hbr := Lib.hid (Hb3.out.below hB5 hl3)
  clear hB5 c0 c1
  cases hm : mayRel rc l
  · obtain ⟨e0, e1⟩ := Hbr.out.cells.c2
    have f0 := Hbr.out.free 0
    have f1 := Hbr.out.free 1
    simp only [Nat.zero_add] at e1
    have he2 : selErr rc l keep = 2 := by unfold selErr; rw [hm]; rfl
    obtain ⟨t1, t2, t3, t4⟩ := relTail (pc := none) (pr := none) (qc := 0) (qr := 0) Hbr.out (show w.heap.size ≤ w.heap.size + 1 + 1 by omega) HB5.out (Own.nil _ _ _ _ _) (OwnR.nil _ _)
    have hr := HR.out _ _ _ [] (Below.only t1) (by rw [hm]; exact HJB.out _ _ _ hJ0 t1 (Nat.le_refl _)) (by rw [he2]; exact t2) (by rw [he2]; exact t3)
    rw [he2] at hr
    have Hr := Lib.hid hr
    have Ht := Lib.hid t4
    clear hm hr t1 t2 t3 t4 he2
    go_wp2_with fail
    exact ret_cell_tmp rfl rfl Ht.out rfl rfl Hr.out
  have hml := (may_many hm).1
  have Hml := Lib.hid (may_len hm)
  have hmc := (may_many hm).2
  have he2 : selErr rc l keep = madeErr rc (keepL keep l) := by unfold selErr; rw [hm]; rfl
  rw [he2, hm] at HR
  simp only [if_true] at HR
  clear he2 hm
  have cf := Hbf.out.cells.c1
  have hfn := run_eql_func_nil h capt
  go_upto_region 3 with fail
  have hS0 : Only (fun z => A z ∨ z = w.heap.size + 1 + 1) w5 w5.drew := Only.drew _
  refine wp_region_held_drew (S := fun w' => Only (fun z => A z ∨ z = w.heap.size + 1 + 1) w5 w') (by kernel_rfl) hS0 (fun hHeld => ?_)
  refine wpAnyH_take (i := 0) (v := .pointer (some ⟨w.heap.size, 0, none⟩)) rfl (by kernel_rfl) (by kernel_rfl) (by kernel_rfl) (fun _ _ _ h => h) (Or.inl ⟨by rfl, ?_⟩) hHeld ?_
  · intro w' hSw; go_simp
  try simp only [Act.put, List.getElem_toArray, List.getElem_cons_succ, List.getElem_cons_zero, List.setIfInBounds_toArray, List.set_cons_zero, List.set_cons_succ]
  refine wpAnyH_take (i := 1) (v := .slice ac rc.length cc) rfl (by kernel_rfl) (by kernel_rfl) (by kernel_rfl) (fun _ _ _ h => h) (Or.inl ⟨by rfl, ?_⟩) hHeld ?_
  · intro w' hSw; obtain ⟨z0, z1⟩ := (hSw.blk Hbx.out (fun h => h.elim (fun a => absurd (HA1.out _ a) (by omega)) (fun e => by omega))).cells.c2; simp only [Nat.zero_add] at z1; go_simp
  try simp only [Act.put, List.getElem_toArray, List.getElem_cons_succ, List.getElem_cons_zero, List.setIfInBounds_toArray, List.set_cons_zero, List.set_cons_succ]
  refine wpAnyH_take (i := 2) (v := .pointer (some ⟨w.heap.size, 1, none⟩)) rfl (by kernel_rfl) (by kernel_rfl) (by kernel_rfl) (fun _ _ _ h => h) (Or.inl ⟨by rfl, ?_⟩) hHeld ?_
  · intro w' hSw; go_simp
  try simp only [Act.put, List.getElem_toArray, List.getElem_cons_succ, List.getElem_cons_zero, List.setIfInBounds_toArray, List.set_cons_zero, List.set_cons_succ]
  refine wpAnyH_take (i := 3) (v := .slice av l.length cv2) rfl (by kernel_rfl) (by kernel_rfl) (by kernel_rfl) (fun _ _ _ h => h) (Or.inl ⟨by rfl, ?_⟩) hHeld ?_
  · intro w' hSw; obtain ⟨z0, z1⟩ := (hSw.blk Hbx.out (fun h => h.elim (fun a => absurd (HA1.out _ a) (by omega)) (fun e => by omega))).cells.c2; simp only [Nat.zero_add] at z1; go_simp
  try simp only [Act.put, List.getElem_toArray, List.getElem_cons_succ, List.getElem_cons_zero, List.setIfInBounds_toArray, List.set_cons_zero, List.set_cons_succ]
  refine wpAnyH_take (i := 4) (v := .func (.func 80) #[] #[.pointer (some ⟨w.heap.size + 1, 0, none⟩)]) rfl (by kernel_rfl) (by kernel_rfl) (by kernel_rfl) (fun _ _ _ h => h) (Or.inl ⟨by rfl, ?_⟩) hHeld ?_
  · intro w' hSw; go_simp
  try simp only [Act.put, List.getElem_toArray, List.getElem_cons_succ, List.getElem_cons_zero, List.setIfInBounds_toArray, List.set_cons_zero, List.set_cons_succ]
  refine wpAnyH_ready (rs := [5]) (by kernel_rfl) (by simp) ?_
  refine allCall (f := 71) (args := #[.slice av l.length cv2, .func (.func 80) #[] #[.pointer (some ⟨w.heap.size + 1, 0, none⟩)]]) rfl (by kernel_rfl) (by kernel_rfl) ?_ AllReadyH.nil
  have HBd : Hid (Below w.heap.size w w5.drew) := Lib.hid HB5.out.drew
  refine gatherJ_any lo hi l _ 80 #[.pointer (some ⟨w.heap.size + 1, 0, none⟩)] keep A (fun k w' => J k w' ∧ Blk w' (w.heap.size + 1) [.func (.func h) #[] capt] 61) w5.drew (Sl.below Hv.out rowE_loc HBd.out hhi) (by show hi ≤ w5.heap.size; omega) (by omega) (enters_of Try.func80 (by kernel_rfl) rfl) (fun b a => by have := HA1.out b a; show b < w5.heap.size; omega) HA2.out ⟨HJB.out _ _ _ hJ0 HBd.out (Nat.le_refl _), Hbf.out⟩ (fun k w1 w2 hJ hB hz => ⟨HJB.out _ _ _ hJ.1 (hB.mono (by show w.heap.size ≤ w5.heap.size; omega)) (by have : w5.heap.size ≤ w1.heap.size := hz; omega), hJ.2.below hB (by show w.heap.size + 1 < w5.heap.size; omega)⟩) (fun k hk xv w' R' hJ' hz' hx' hR' => ?_) _ (fun w6 v6 hs6 hO6 hJ6 h6 => ?_)
  · have hz5' : w5.heap.size ≤ w'.heap.size := hz'
    refine Select1_any lo hi (w.heap.size + 1) w5.heap.size l[k] xv h capt (keep k) A (fun w' => J k w' ∧ Blk w' (w.heap.size + 1) [.func (.func h) #[] capt] 61) (fun w' => J (k + 1) w' ∧ Blk w' (w.heap.size + 1) [.func (.func h) #[] capt] 61) w' hx' (by omega) (by rw [Hml.out _ (List.getElem_mem hk)]; omega) (by omega) (fun a => absurd (HA1.out _ a) (by omega)) hz5' (fun _ h => h.2) he (fun b a => by have := HA1.out b a; omega) HA2.out hJ'
      (fun w1 w2 hJ hB hz => ⟨HJB.out _ _ _ hJ.1 (hB.mono (by omega)) (by omega), hJ.2.below hB (by omega)⟩) (fun w1 w2 hJ hB hz => ⟨HJB.out _ _ _ hJ.1 (hB.mono (by omega)) (by omega), hJ.2.below hB (by omega)⟩)
      (fun zlo zv wz Rz hJz hlz hzz hoz hRz => Hu.out k hk zlo zv wz Rz hJz.1 (by omega) hzz hoz (fun w'' hJ1 hO1 => hRz w'' ⟨hJ1, hO1.blk hJz.2 (fun h => h.elim (fun a => absurd (HA1.out _ a) (by omega)) (fun e => by have := (Own.lt hoz _ e).1; omega))⟩ hO1)) R' (fun w'' yv hJ1 hO1 hoy => ?_)
    obtain ⟨a, c, e⟩ := Own.slice hoy
    exact hR' w'' yv hJ1 hO1 (fun _ => hoy) ⟨a, _, c, e⟩
  obtain ⟨p6, q6, e6⟩ := Own.slice h6.own
  subst e6
  have hO56 : Only A w5 w6 := (Only.drew w5).trans hO6
  have hHeld2 : Only (fun z => A z ∨ z = w.heap.size + 1 + 1) w5 w6 := hO56.mono (fun k _ h => .inl h)
  have HO56 := Lib.hid hO56
  have HJ6 := Lib.hid hJ6
  have H6 := Lib.hid h6
  have hz6 : w5.heap.size ≤ w6.heap.size := hO56.size
  refine ⟨_, rfl, hHeld2, ?_⟩
  clear hHeld hO6 hJ6 h6 hO56
  have hHeld := hHeld2
  clear hHeld2
  try simp only [Act.put, List.getElem_toArray, List.getElem_cons_succ, List.getElem_cons_zero, List.setIfInBounds_toArray, List.set_cons_zero, List.set_cons_succ]
  refine wpAnyH_ready (rs := [6]) (by kernel_rfl) (by simp) ?_
  refine allCall (f := 70) (args := #[.slice ac rc.length cc, .slice p6 hs6.length q6]) rfl (by kernel_rfl) (by kernel_rfl) ?_ AllReadyH.nil
  refine madeK_any w5.heap.size lc hc rc _ (keepL keep l) hs6 _ w6 (Sl.agree (Sl.below Hrc.out Strs.loc HB5.out hhc) Strs.loc (HO56.out.agree (by omega) HA3.out)) (by omega) hz6 H6.out (by have := keepL_len keep l; omega) _ (fun w7 cv7 lv7 hs7 hB7 hz7 hT7 hO7 => ?_)
  generalize hE : madeErr rc (keepL keep l) = err at *
  generalize okL err rc = oc at *
  generalize okL err (relCanon (keepL keep l)) = ol at *
  obtain ⟨p7, q7, rfl⟩ := Own.slice hT7
  obtain ⟨p8, q8, e8⟩ := Own.slice hO7.own
  rw [hO7.len] at e8
  subst e8
  have hO57 : Only A w5 w7 := ⟨hB7.os.trans HO56.out.os, hB7.tape.trans HO56.out.tape, hB7.output.trans HO56.out.output, by omega, fun k hk hn => (hB7.block k hk).trans (HO56.out.block k hk hn)⟩
  have hb7 := hO57.blk Hbr.out (fun a => absurd (HA1.out _ a) (by omega))
  obtain ⟨e0, e1⟩ := hb7.cells.c2
  have f0 := hb7.free 0
  have f1 := hb7.free 1
  simp only [Nat.zero_add] at e1
  have hOw7 : Only A w w7 := Only.into2 (Below.only HB5.out) hO57 (fun b _ a => a)
  have hJ7 := HJB.out _ _ _ HJ6.out.1 (hB7.mono (by omega)) (by omega)
  have hS8 : Below w.heap.size w7 ((w7.setCell ⟨w.heap.size + 1 + 1, 0, none⟩ (.slice p7 oc.length q7)).setCell ⟨w.heap.size + 1 + 1, 1, none⟩ (.slice p8 ol.length q8)) := ((Below.refl w.heap.size w7).setCell (p := ⟨w.heap.size + 1 + 1, 0, none⟩) (by show w.heap.size ≤ w.heap.size + 1 + 1; omega) _).setCell (p := ⟨w.heap.size + 1 + 1, 1, none⟩) (by show w.heap.size ≤ w.heap.size + 1 + 1; omega) _
  have hJ8 := HJB.out _ _ _ hJ7 hS8 (by omega)
  have t2 : OwnT w.heap.size ((w7.setCell ⟨w.heap.size + 1 + 1, 0, none⟩ (.slice p7 oc.length q7)).setCell ⟨w.heap.size + 1 + 1, 1, none⟩ (.slice p8 ol.length q8)) (.slice p7 oc.length q7) oc := Own.lower (Own.setOther (Own.setOther hT7 (p := ⟨w.heap.size + 1 + 1, 0, none⟩) (Own.ne_blk hT7 hb7 (by decide)) _) (p := ⟨w.heap.size + 1 + 1, 1, none⟩) (Own.ne_blk hT7 hb7 (by decide)) _) (by omega)
  have t3 : OwnR w.heap.size ((w7.setCell ⟨w.heap.size + 1 + 1, 0, none⟩ (.slice p7 oc.length q7)).setCell ⟨w.heap.size + 1 + 1, 1, none⟩ (.slice p8 ol.length q8)) (.slice p8 ol.length q8) hs7 ol := ((hO7.setBlk hb7 (by decide) (by decide) 0 _).setBlk (hb7.set 0 _) (by decide) (by decide) 1 _).lower (by omega)
  have t4 := ((hb7.set 0 (.slice p7 oc.length q7)).set 1 (.slice p8 ol.length q8)).cells.runVar (P := Try.prog) (t := 34) (fun _ => by kernel_rfl) (fun _ => by kernel_rfl)
  have hr := HR.out _ _ _ _ ((hOw7.setNew (show w.heap.size ≤ w.heap.size + 1 + 1 by omega) 0 _).setNew (show w.heap.size ≤ w.heap.size + 1 + 1 by omega) 1 _) hJ8 t2 t3
  have Hr := Lib.hid hr
  have Ht := Lib.hid t4
  have hHeld2 : Only (fun z => A z ∨ z = w.heap.size + 1 + 1) w5 w7 := hO57.mono (fun k _ h => .inl h)
  refine ⟨_, rfl, hHeld2, ?_⟩
  clear hHeld hr t2 t3 t4 hb7 hO57 hOw7 hJ7 hS8 hJ8 hT7 hO7 hB7
  have hHeld := hHeld2
  clear hHeld2
  try simp only [Act.put, List.getElem_toArray, List.getElem_cons_succ, List.getElem_cons_zero, List.setIfInBounds_toArray, List.set_cons_zero, List.set_cons_succ]
  refine wpAnyH_take (i := 7) (v := .agg #[.slice p7 oc.length q7, .slice p8 ol.length q8]) rfl (by kernel_rfl) (by kernel_rfl) (by kernel_rfl) (fun _ _ _ h => h) (Or.inl ⟨by rfl, ?_⟩) hHeld ?_
  · intro w' hSw; go_simp
  try simp only [Act.put, List.getElem_toArray, List.getElem_cons_succ, List.getElem_cons_zero, List.setIfInBounds_toArray, List.set_cons_zero, List.set_cons_succ]
  refine wpAnyH_take (i := 8) (v := .int .i64 err) rfl (by kernel_rfl) (by kernel_rfl) (by kernel_rfl) (fun _ _ _ h => h) (Or.inl ⟨by rfl, ?_⟩) hHeld ?_
  · intro w' hSw; go_simp
  try simp only [Act.put, List.getElem_toArray, List.getElem_cons_succ, List.getElem_cons_zero, List.setIfInBounds_toArray, List.set_cons_zero, List.set_cons_succ]
  have hHeld2 := (hHeld.trans (Only.setCell (A := fun z => A z ∨ z = w.heap.size + 1 + 1) w7 (p := ⟨w.heap.size + 1 + 1, 0, none⟩) (.inr rfl) (.slice p7 oc.length q7))).trans (Only.setCell (A := fun z => A z ∨ z = w.heap.size + 1 + 1) _ (p := ⟨w.heap.size + 1 + 1, 1, none⟩) (.inr rfl) (.slice p8 ol.length q8))
  refine wpAnyH_ready (rs := [9]) (by kernel_rfl) (by simp) ?_
  refine allSkip (w' := (w7.setCell ⟨w.heap.size + 1 + 1, 0, none⟩ (.slice p7 oc.length q7)).setCell ⟨w.heap.size + 1 + 1, 1, none⟩ (.slice p8 ol.length q8)) rfl (by kernel_rfl) ?_ hHeld2 ?_ AllReadyH.nil
  · go_simp
  try simp only [Act.put, List.getElem_toArray, List.getElem_cons_succ, List.getElem_cons_zero, List.setIfInBounds_toArray, List.set_cons_zero, List.set_cons_succ]
  clear hHeld
  have hHeld := hHeld2
  clear hHeld2
  refine wpAnyH_take (i := 10) (v := .int .i64 err) rfl (by kernel_rfl) (by kernel_rfl) (by kernel_rfl) (fun _ _ _ h => h) (Or.inl ⟨by rfl, ?_⟩) hHeld ?_
  · intro w' hSw; go_simp
  try simp only [Act.put, List.getElem_toArray, List.getElem_cons_succ, List.getElem_cons_zero, List.setIfInBounds_toArray, List.set_cons_zero, List.set_cons_succ]
  refine wpAnyH_done (by kernel_rfl) ?_ _
  clear hHeld
  go_wp2_with fail
  exact ret_cell_tmp rfl rfl Ht.out rfl rfl Hr.out
end Go.Proofs.Ytpncblagjkbemaa
