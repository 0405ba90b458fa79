/- A call of a pair: the walk, for each kind of call. (Printed by diskpl.py.) -/
import Derived.Test.YtfmpafheodpfoaaDiskDr
namespace Go.Proofs.Ytfmpafheodpfoaa
open Go.RowKit
attribute [local go_sem ↓] Go.wp_at_zero Go.wp_at_succ
set_option linter.unusedVariables false
set_option linter.unusedSimpArgs false

set_option maxRecDepth 100000 in
set_option maxHeartbeats 8000000 in
theorem do7_any (S : Nat → Prop) (lo hi pb m : Nat) (d : Dk) (x : DOp) (cs : List Value) (w : World) (h : PrAt w S pb d) (hb : Bnd d m) (hm : m < 100000) (hx : opE lo hi w cs x) (hhi : hi ≤ w.heap.size) (hap : ∀ k, S k → k < lo ∨ hi ≤ k) (hl : x.data.length ≤ 300) (hk : x.kind = 7)
    (R : Ending → World → Prop) (hR : ∀ w', Only S w w' → PrAt w' (Wid S w.heap.size w'.heap.size) pb (d.act x) → R (.returned (.bool true)) w') :
    Calls Try.prog 22 #[.pointer (some ⟨pb, 0, none⟩), .agg cs.toArray] w R := by
  obtain ⟨T, U, db, rb, h⟩ := h
  obtain ⟨kind, i, n, data, raw, keep, tn, at'⟩ := x
  obtain ⟨dv, kv, rfl, hdv, hkv⟩ := hx
  simp only at hk hdv hkv hl
  subst hk
  obtain ⟨ad, cd, rfl, -, -, -, -⟩ := hdv.form
  obtain ⟨ak, ck, rfl, -, -, -, -⟩ := hkv.form
  have H := Lib.hid h
  have HR := Lib.hid hR
  have Hb := Lib.hid hb
  have Hap := Lib.hid hap
  have Hlt := Lib.hid h.lt
  have hpl := h.pd.lt
  have hal := alloc_below w (.cells #[.int .i64 7, .int .i64 i, .int .i64 n, .slice ad data.length cd, .bool raw, .slice ak keep.length ck, .int .i64 tn, .int .i64 at'] 36)
  have hb8 := Blk.new w [.int .i64 7, .int .i64 i, .int .i64 n, .slice ad data.length cd, .bool raw, .slice ak keep.length ck, .int .i64 tn, .int .i64 at'] 36 rfl
  have Hdv := Lib.hid (Sl.below hdv (flat_loc _) hal hhi)
  have Hkv := Lib.hid (Sl.below hkv (flat_loc _) hal hhi)
  clear h hR hb hap hdv hkv
  go_enter Try.func22, Try.ntmps22
  go_upto_region 1 with fail
  generalize w.alloc (.cells #[.int .i64 7, .int .i64 i, .int .i64 n, .slice ad data.length cd, .bool raw, .slice ak keep.length ck, .int .i64 tn, .int .i64 at'] 36) = wb at *
  have hzb := hal.size
  have hhb : hi ≤ wb.heap.size := Nat.le_trans hhi hzb
  have q8 := hb8.lt
  obtain ⟨x0, x1, x2, x3, x4, x5, x6, x7⟩ := hb8.cells.c8
  have HBb := Lib.hid hal
  have H8 := Lib.hid hb8
  clear hal hb8
  go_wp2_with fail
  refine Full_any lo hi _ data wb Hdv.out hhb _ (fun wf hBf hbf => ?_)
  have hzf := hBf.size
  have HBf := Lib.hid (HBb.out.trans (hBf.mono hzb))
  have H8f := Lib.hid (H8.out.below hBf q8)
  have Hdf := Lib.hid (Sl.below Hdv.out (flat_loc _) hBf hhb)
  have Hkf := Lib.hid (Sl.below Hkv.out (flat_loc _) hBf hhb)
  have hhf : hi ≤ wf.heap.size := Nat.le_trans hhb hzf
  have Hof := Lib.hid (full_own hbf (Nat.le_refl _))
  have q8f : w.heap.size < wf.heap.size := by omega
  clear x0 x1 x2 x3 x4 x5 x6 x7 hBf hbf Hdv Hkv H8
  obtain ⟨x0, x1, x2, x3, x4, x5, x6, x7⟩ := H8f.out.cells.c8
  go_upto_if 29 with fail
  go_cut [5] from 30 to 33 (fun t5 wx => ∃ p c, t5 = .slice p (if raw then data else full data).length c ∧ OwnB wb.heap.size wx t5 (if raw then data else full data) ∧ Below wf.heap.size wf wx)
  case first =>
    as_aux_lemma =>
    cases raw with
    | false =>
      go_wp2_with fail
      go_meet
      exact ⟨_, _, by rw [if_neg (by decide), full_length], by rw [if_neg (by decide)]; exact Hof.out, Below.refl _ _⟩
    | true =>
      obtain ⟨pk, ck2, wcc, hrunk, hkc, hBc⟩ := copyD Hdf.out hhf (by omega) (n := wf.heap.size) rfl
      go_wp2_with (at_builtin; refine AtApp.of ?_)
      refine AtApp.go hrunk rfl rfl rfl rfl ?_
      clear hrunk
      go_wp2_with fail
      go_meet
      exact ⟨_, _, by first | rw [if_pos rfl] | rw [if_pos trivial], ifp (Own.mono0 hkc hzf), hBc⟩
  case rest =>
  obtain ⟨pd, cd2, rfl, hoc, hBc⟩ := hcut
  obtain ⟨wa, ewa⟩ : ∃ x, x = wc := ⟨_, rfl⟩
  subst ewa
  have hza := hBc.size
  have HBa := Lib.hid (HBf.out.trans (hBc.mono (by omega)))
  have H8a := Lib.hid (H8f.out.below hBc q8f)
  have Hda := Lib.hid (show OwnB wb.heap.size wa (.slice pd (if raw then data else full data).length cd2) (if raw then data else full data) from hoc)
  have Hka := Lib.hid (Sl.below Hkf.out (flat_loc _) hBc hhf)
  have hha : hi ≤ wa.heap.size := Nat.le_trans hhf hza
  have q8a : w.heap.size < wa.heap.size := by omega
  have qwb : w.heap.size < wb.heap.size := q8
  have Hby : Hid (DOp.bytes ⟨7, i, n, data, raw, keep, tn, at'⟩ = if raw then data else full data) := Lib.hid rfl
  have hdl : (if raw then data else full data).length ≤ 300 := by
    cases raw
    · rw [if_neg (by decide), full_length]; omega
    · rw [if_pos rfl]; exact hl
  have hcv := fun q => str (Sl.below Hda.out.bytes (flat_loc _) (drewN (Below.refl wa.heap.size wa) q) (Nat.le_refl _))
  have hcv0 := str Hda.out.bytes
  clear x0 x1 x2 x3 x4 x5 x6 x7 hoc hBc HBf H8f Hdf Hkf Hof
  generalize (if raw then data else full data) = b at *
  obtain ⟨x0, x1, x2, x3, x4, x5, x6, x7⟩ := H8a.out.cells.c8
  go_upto_region 7 with fail
  obtain ⟨p0, p1⟩ := H.out.cells (w' := wa) (HBa.out.block pb hpl)
  have HD := Lib.hid (H.out.hd.below HBa.out)
  have HU := Lib.hid (H.out.hr.below HBa.out)
  have qpl : pb < wa.heap.size := Nat.lt_of_lt_of_le hpl HBa.out.size
  have HTl : Hid (∀ k, T k → k < wa.heap.size) := Lib.hid (fun k e => by have := Hlt.out k (H.out.t k e).1; omega)
  have HUl : Hid (∀ k, U k → k < wa.heap.size) := Lib.hid (fun k e => by have := Hlt.out k (H.out.u k e).1; omega)
  clear x1 x2 x3 x4 x5 x6 x7
  go_wp2_with fail
  refine Dirty_any T db d wa HD.out _ (fun w1 v1 hB1 ho1 => ?_)
  obtain ⟨dl, edl⟩ : ∃ dl, dirtyTo d d.safe.length = dl := ⟨_, rfl⟩
  rw [edl] at ho1
  obtain ⟨pl, cl, rfl⟩ := Own.slice ho1
  have HB1 := Lib.hid hB1
  have Hs1 := Lib.hid ho1
  clear hB1 ho1
  have hz1 := HB1.out.size
  obtain ⟨p10, p11⟩ := H.out.cells (w' := w1) ((HB1.out.block pb qpl).trans (HBa.out.block pb hpl))
  have qpl1 : pb < w1.heap.size := by omega
  have HU1 := Lib.hid (HU.out.below HB1.out)
  obtain ⟨lb, c, ws, hri⟩ := HU1.out
  obtain ⟨r0, r1, r2, r3⟩ := hri.hd.cells.c4
  have rlt := hri.hd.lt
  have Hedl := Lib.hid edl
  clear hri
  clear x0 p0 p1
  go_wp2_with fail
  refine wp_region_held_drew (S := fun w' => Below w1.heap.size w1 w') (by kernel_rfl) (Below.drew (Below.refl _ _)) (fun hHeld => ?_)
  refine wpAnyH_take (i := 0) (v := .slice pl dl.length cl) rfl (by kernel_rfl) (by kernel_rfl) (by kernel_rfl) (fun _ _ _ h => h) (Or.inl ⟨by rfl, ?_⟩) hHeld ?_
  · intro w' hSw; go_simp
  try simp only [Act.put, List.getElem_toArray, List.getElem_cons_succ, List.getElem_cons_zero, List.setIfInBounds_toArray, List.set_cons_zero, List.set_cons_succ]
  refine wpAnyH_take (i := 1) (v := .pointer (some ⟨pb, 0, none⟩)) rfl (by kernel_rfl) (by kernel_rfl) (by kernel_rfl) (fun _ _ _ h => h) (Or.inl ⟨by rfl, ?_⟩) hHeld ?_
  · intro w' hSw; go_simp
  try simp only [Act.put, List.getElem_toArray, List.getElem_cons_succ, List.getElem_cons_zero, List.setIfInBounds_toArray, List.set_cons_zero, List.set_cons_succ]
  refine wpAnyH_take (i := 2) (v := .pointer (some ⟨pb, 0, none⟩)) rfl (by kernel_rfl) (by kernel_rfl) (by kernel_rfl) (fun _ _ _ h => h) (Or.inl ⟨by rfl, ?_⟩) hHeld ?_
  · intro w' hSw; go_simp
  try simp only [Act.put, List.getElem_toArray, List.getElem_cons_succ, List.getElem_cons_zero, List.setIfInBounds_toArray, List.set_cons_zero, List.set_cons_succ]
  refine wpAnyH_take (i := 3) (v := .pointer (some ⟨pb, 1, none⟩)) rfl (by kernel_rfl) (by kernel_rfl) (by kernel_rfl) (fun _ _ _ h => h) (Or.inl ⟨by rfl, ?_⟩) hHeld ?_
  · intro w' hSw; go_simp
  try simp only [Act.put, List.getElem_toArray, List.getElem_cons_succ, List.getElem_cons_zero, List.setIfInBounds_toArray, List.set_cons_zero, List.set_cons_succ]
  refine wpAnyH_take (i := 4) (v := .pointer (some ⟨rb, 0, none⟩)) rfl (by kernel_rfl) (by kernel_rfl) (by kernel_rfl) (fun _ _ _ h => h) (Or.inl ⟨by rfl, ?_⟩) hHeld ?_
  · intro w' hSw; have kx := (World.cell?_of_block (hSw.block _ qpl1 )).trans p11; go_simp
  try simp only [Act.put, List.getElem_toArray, List.getElem_cons_succ, List.getElem_cons_zero, List.setIfInBounds_toArray, List.set_cons_zero, List.set_cons_succ]
  refine wpAnyH_ready (rs := [5]) (by kernel_rfl) (by simp) ?_
  refine allCall (f := 44) (args := #[.pointer (some ⟨rb, 0, none⟩)]) rfl (by kernel_rfl) (by kernel_rfl) ?_ AllReadyH.nil
  refine DirtyR_any U rb d w1.drew (HU1.out.keep (fun _ _ _ => rfl) (fun _ e => e)) (few_of Hb.out hm) _ (fun w2 v2 hB2 ho2 => ?_)
  rw [edl] at ho2
  obtain ⟨pl2, cl2, rfl⟩ := Own.slice ho2
  have hH2 : Below w1.heap.size w1 w2 := hHeld.trans hB2
  refine ⟨_, rfl, hH2, ?_⟩
  clear hHeld
  have hHeld := hH2
  try simp only [Act.put, List.getElem_toArray, List.getElem_cons_succ, List.getElem_cons_zero, List.setIfInBounds_toArray, List.set_cons_zero, List.set_cons_succ]
  refine wpAnyH_ready (rs := [6]) (by kernel_rfl) (by simp) ?_
  refine allCall (f := 28) (args := #[.slice pl dl.length cl, .slice pl2 dl.length cl2]) rfl (by kernel_rfl) (by kernel_rfl) ?_ AllReadyH.nil
  refine ints_any _ _ _ _ dl dl _ _ w2 (Sl.ofOwn (fun _ => rfl) (Own.kept Hs1.out hHeld)) (Sl.ofOwn (fun _ => rfl) ho2) (Nat.le_refl _) (Nat.le_refl _) _ (fun w3 hB3 => ?_)
  rw [show decide (dl = dl) = true from decide_eq_true rfl]
  have hH3 : Below w1.heap.size w1 w3 := hHeld.trans (hB3.mono hHeld.size)
  refine ⟨_, rfl, hH3, ?_⟩
  clear hHeld hH2 ho2 hB2 hB3
  have hHeld := hH3
  try simp only [Act.put, List.getElem_toArray, List.getElem_cons_succ, List.getElem_cons_zero, List.setIfInBounds_toArray, List.set_cons_zero, List.set_cons_succ]
  refine wpAnyH_take (i := 7) (v := .bool true) rfl (by kernel_rfl) (by kernel_rfl) (by kernel_rfl) (fun _ _ _ h => h) (Or.inl ⟨by rfl, ?_⟩) hHeld ?_
  · intro w' hSw; go_simp
  try simp only [Act.put, List.getElem_toArray, List.getElem_cons_succ, List.getElem_cons_zero, List.setIfInBounds_toArray, List.set_cons_zero, List.set_cons_succ]
  refine wpAnyH_take (i := 8) (v := .pointer (some ⟨pb, 0, none⟩)) rfl (by kernel_rfl) (by kernel_rfl) (by kernel_rfl) (fun _ _ _ h => h) (Or.inl ⟨by rfl, ?_⟩) hHeld ?_
  · intro w' hSw; go_simp
  try simp only [Act.put, List.getElem_toArray, List.getElem_cons_succ, List.getElem_cons_zero, List.setIfInBounds_toArray, List.set_cons_zero, List.set_cons_succ]
  refine wpAnyH_take (i := 9) (v := .pointer (some ⟨pb, 0, none⟩)) rfl (by kernel_rfl) (by kernel_rfl) (by kernel_rfl) (fun _ _ _ h => h) (Or.inl ⟨by rfl, ?_⟩) hHeld ?_
  · intro w' hSw; go_simp
  try simp only [Act.put, List.getElem_toArray, List.getElem_cons_succ, List.getElem_cons_zero, List.setIfInBounds_toArray, List.set_cons_zero, List.set_cons_succ]
  refine wpAnyH_take (i := 10) (v := .pointer (some ⟨pb, 0, none⟩)) rfl (by kernel_rfl) (by kernel_rfl) (by kernel_rfl) (fun _ _ _ h => h) (Or.inl ⟨by rfl, ?_⟩) hHeld ?_
  · intro w' hSw; go_simp
  try simp only [Act.put, List.getElem_toArray, List.getElem_cons_succ, List.getElem_cons_zero, List.setIfInBounds_toArray, List.set_cons_zero, List.set_cons_succ]
  refine wpAnyH_take (i := 11) (v := .pointer (some ⟨db, 0, none⟩)) rfl (by kernel_rfl) (by kernel_rfl) (by kernel_rfl) (fun _ _ _ h => h) (Or.inl ⟨by rfl, ?_⟩) hHeld ?_
  · intro w' hSw; have kx := (World.cell?_of_block (hSw.block _ qpl1 )).trans p10; go_simp
  try simp only [Act.put, List.getElem_toArray, List.getElem_cons_succ, List.getElem_cons_zero, List.setIfInBounds_toArray, List.set_cons_zero, List.set_cons_succ]
  refine wpAnyH_take (i := 13) (v := .pointer (some ⟨pb, 0, none⟩)) rfl (by kernel_rfl) (by kernel_rfl) (by kernel_rfl) (fun _ _ _ h => h) (Or.inl ⟨by rfl, ?_⟩) hHeld ?_
  · intro w' hSw; go_simp
  try simp only [Act.put, List.getElem_toArray, List.getElem_cons_succ, List.getElem_cons_zero, List.setIfInBounds_toArray, List.set_cons_zero, List.set_cons_succ]
  refine wpAnyH_take (i := 14) (v := .pointer (some ⟨pb, 0, none⟩)) rfl (by kernel_rfl) (by kernel_rfl) (by kernel_rfl) (fun _ _ _ h => h) (Or.inl ⟨by rfl, ?_⟩) hHeld ?_
  · intro w' hSw; go_simp
  try simp only [Act.put, List.getElem_toArray, List.getElem_cons_succ, List.getElem_cons_zero, List.setIfInBounds_toArray, List.set_cons_zero, List.set_cons_succ]
  refine wpAnyH_take (i := 15) (v := .pointer (some ⟨pb, 1, none⟩)) rfl (by kernel_rfl) (by kernel_rfl) (by kernel_rfl) (fun _ _ _ h => h) (Or.inl ⟨by rfl, ?_⟩) hHeld ?_
  · intro w' hSw; go_simp
  try simp only [Act.put, List.getElem_toArray, List.getElem_cons_succ, List.getElem_cons_zero, List.setIfInBounds_toArray, List.set_cons_zero, List.set_cons_succ]
  refine wpAnyH_take (i := 16) (v := .pointer (some ⟨rb, 0, none⟩)) rfl (by kernel_rfl) (by kernel_rfl) (by kernel_rfl) (fun _ _ _ h => h) (Or.inl ⟨by rfl, ?_⟩) hHeld ?_
  · intro w' hSw; have kx := (World.cell?_of_block (hSw.block _ qpl1 )).trans p11; go_simp
  try simp only [Act.put, List.getElem_toArray, List.getElem_cons_succ, List.getElem_cons_zero, List.setIfInBounds_toArray, List.set_cons_zero, List.set_cons_succ]
  refine wpAnyH_take (i := 17) (v := .pointer (some ⟨rb, 0, none⟩)) rfl (by kernel_rfl) (by kernel_rfl) (by kernel_rfl) (fun _ _ _ h => h) (Or.inl ⟨by rfl, ?_⟩) hHeld ?_
  · intro w' hSw; go_simp
  try simp only [Act.put, List.getElem_toArray, List.getElem_cons_succ, List.getElem_cons_zero, List.setIfInBounds_toArray, List.set_cons_zero, List.set_cons_succ]
  refine wpAnyH_take (i := 18) (v := .pointer (some ⟨rb, 2, none⟩)) rfl (by kernel_rfl) (by kernel_rfl) (by kernel_rfl) (fun _ _ _ h => h) (Or.inl ⟨by rfl, ?_⟩) hHeld ?_
  · intro w' hSw; go_simp
  try simp only [Act.put, List.getElem_toArray, List.getElem_cons_succ, List.getElem_cons_zero, List.setIfInBounds_toArray, List.set_cons_zero, List.set_cons_succ]
  refine wpAnyH_take (i := 19) (v := .bool d.down) rfl (by kernel_rfl) (by kernel_rfl) (by kernel_rfl) (fun _ _ _ h => h) (Or.inl ⟨by rfl, ?_⟩) hHeld ?_
  · intro w' hSw; have kx := (World.cell?_of_block (hSw.block _ rlt )).trans r2; go_simp
  try simp only [Act.put, List.getElem_toArray, List.getElem_cons_succ, List.getElem_cons_zero, List.setIfInBounds_toArray, List.set_cons_zero, List.set_cons_succ]
  refine wpAnyH_ready (rs := [12]) (by kernel_rfl) (by simp) ?_
  refine allCall (f := 17) (args := #[.pointer (some ⟨db, 0, none⟩)]) rfl (by kernel_rfl) (by kernel_rfl) ?_ AllReadyH.nil
  refine Down_any T db d w3 ((HD.out.below HB1.out).below hHeld) _ ⟨_, rfl, hHeld, ?_⟩
  try simp only [Act.put, List.getElem_toArray, List.getElem_cons_succ, List.getElem_cons_zero, List.setIfInBounds_toArray, List.set_cons_zero, List.set_cons_succ]
  refine wpAnyH_take (i := 20) (v := .bool true) rfl (by kernel_rfl) (by kernel_rfl) (by kernel_rfl) (fun _ _ _ h => h) (Or.inl ⟨by rfl, ?_⟩) hHeld ?_
  · intro w' hSw; go_simp
  try simp only [Act.put, List.getElem_toArray, List.getElem_cons_succ, List.getElem_cons_zero, List.setIfInBounds_toArray, List.set_cons_zero, List.set_cons_succ]
  refine wpAnyH_take (i := 21) (v := .bool true) rfl (by kernel_rfl) (by kernel_rfl) (by kernel_rfl) (fun _ _ _ h => h) (Or.inl ⟨by rfl, ?_⟩) hHeld ?_
  · intro w' hSw; go_simp
  try simp only [Act.put, List.getElem_toArray, List.getElem_cons_succ, List.getElem_cons_zero, List.setIfInBounds_toArray, List.set_cons_zero, List.set_cons_succ]
  refine wpAnyH_take (i := 22) (v := .bool true) rfl (by kernel_rfl) (by kernel_rfl) (by kernel_rfl) (fun _ _ _ h => h) (Or.inl ⟨by rfl, ?_⟩) hHeld ?_
  · intro w' hSw; go_simp
  try simp only [Act.put, List.getElem_toArray, List.getElem_cons_succ, List.getElem_cons_zero, List.setIfInBounds_toArray, List.set_cons_zero, List.set_cons_succ]
  refine wpAnyH_take (i := 23) (v := .pointer (some ⟨pb, 0, none⟩)) rfl (by kernel_rfl) (by kernel_rfl) (by kernel_rfl) (fun _ _ _ h => h) (Or.inl ⟨by rfl, ?_⟩) hHeld ?_
  · intro w' hSw; go_simp
  try simp only [Act.put, List.getElem_toArray, List.getElem_cons_succ, List.getElem_cons_zero, List.setIfInBounds_toArray, List.set_cons_zero, List.set_cons_succ]
  refine wpAnyH_take (i := 24) (v := .pointer (some ⟨pb, 0, none⟩)) rfl (by kernel_rfl) (by kernel_rfl) (by kernel_rfl) (fun _ _ _ h => h) (Or.inl ⟨by rfl, ?_⟩) hHeld ?_
  · intro w' hSw; go_simp
  try simp only [Act.put, List.getElem_toArray, List.getElem_cons_succ, List.getElem_cons_zero, List.setIfInBounds_toArray, List.set_cons_zero, List.set_cons_succ]
  refine wpAnyH_take (i := 25) (v := .pointer (some ⟨pb, 0, none⟩)) rfl (by kernel_rfl) (by kernel_rfl) (by kernel_rfl) (fun _ _ _ h => h) (Or.inl ⟨by rfl, ?_⟩) hHeld ?_
  · intro w' hSw; go_simp
  try simp only [Act.put, List.getElem_toArray, List.getElem_cons_succ, List.getElem_cons_zero, List.setIfInBounds_toArray, List.set_cons_zero, List.set_cons_succ]
  refine wpAnyH_take (i := 26) (v := .pointer (some ⟨db, 0, none⟩)) rfl (by kernel_rfl) (by kernel_rfl) (by kernel_rfl) (fun _ _ _ h => h) (Or.inl ⟨by rfl, ?_⟩) hHeld ?_
  · intro w' hSw; have kx := (World.cell?_of_block (hSw.block _ qpl1 )).trans p10; go_simp
  try simp only [Act.put, List.getElem_toArray, List.getElem_cons_succ, List.getElem_cons_zero, List.setIfInBounds_toArray, List.set_cons_zero, List.set_cons_succ]
  refine wpAnyH_take (i := 28) (v := .pointer (some ⟨pb, 0, none⟩)) rfl (by kernel_rfl) (by kernel_rfl) (by kernel_rfl) (fun _ _ _ h => h) (Or.inl ⟨by rfl, ?_⟩) hHeld ?_
  · intro w' hSw; go_simp
  try simp only [Act.put, List.getElem_toArray, List.getElem_cons_succ, List.getElem_cons_zero, List.setIfInBounds_toArray, List.set_cons_zero, List.set_cons_succ]
  refine wpAnyH_take (i := 29) (v := .pointer (some ⟨pb, 0, none⟩)) rfl (by kernel_rfl) (by kernel_rfl) (by kernel_rfl) (fun _ _ _ h => h) (Or.inl ⟨by rfl, ?_⟩) hHeld ?_
  · intro w' hSw; go_simp
  try simp only [Act.put, List.getElem_toArray, List.getElem_cons_succ, List.getElem_cons_zero, List.setIfInBounds_toArray, List.set_cons_zero, List.set_cons_succ]
  refine wpAnyH_take (i := 30) (v := .pointer (some ⟨pb, 1, none⟩)) rfl (by kernel_rfl) (by kernel_rfl) (by kernel_rfl) (fun _ _ _ h => h) (Or.inl ⟨by rfl, ?_⟩) hHeld ?_
  · intro w' hSw; go_simp
  try simp only [Act.put, List.getElem_toArray, List.getElem_cons_succ, List.getElem_cons_zero, List.setIfInBounds_toArray, List.set_cons_zero, List.set_cons_succ]
  refine wpAnyH_take (i := 31) (v := .pointer (some ⟨rb, 0, none⟩)) rfl (by kernel_rfl) (by kernel_rfl) (by kernel_rfl) (fun _ _ _ h => h) (Or.inl ⟨by rfl, ?_⟩) hHeld ?_
  · intro w' hSw; have kx := (World.cell?_of_block (hSw.block _ qpl1 )).trans p11; go_simp
  try simp only [Act.put, List.getElem_toArray, List.getElem_cons_succ, List.getElem_cons_zero, List.setIfInBounds_toArray, List.set_cons_zero, List.set_cons_succ]
  refine wpAnyH_take (i := 32) (v := .pointer (some ⟨rb, 0, none⟩)) rfl (by kernel_rfl) (by kernel_rfl) (by kernel_rfl) (fun _ _ _ h => h) (Or.inl ⟨by rfl, ?_⟩) hHeld ?_
  · intro w' hSw; go_simp
  try simp only [Act.put, List.getElem_toArray, List.getElem_cons_succ, List.getElem_cons_zero, List.setIfInBounds_toArray, List.set_cons_zero, List.set_cons_succ]
  refine wpAnyH_take (i := 33) (v := .pointer (some ⟨rb, 3, none⟩)) rfl (by kernel_rfl) (by kernel_rfl) (by kernel_rfl) (fun _ _ _ h => h) (Or.inl ⟨by rfl, ?_⟩) hHeld ?_
  · intro w' hSw; go_simp
  try simp only [Act.put, List.getElem_toArray, List.getElem_cons_succ, List.getElem_cons_zero, List.setIfInBounds_toArray, List.set_cons_zero, List.set_cons_succ]
  refine wpAnyH_take (i := 34) (v := .int .i64 (d.ops)) rfl (by kernel_rfl) (by kernel_rfl) (by kernel_rfl) (fun _ _ _ h => h) (Or.inl ⟨by rfl, ?_⟩) hHeld ?_
  · intro w' hSw; have kx := (World.cell?_of_block (hSw.block _ rlt )).trans r3; go_simp
  try simp only [Act.put, List.getElem_toArray, List.getElem_cons_succ, List.getElem_cons_zero, List.setIfInBounds_toArray, List.set_cons_zero, List.set_cons_succ]
  refine wpAnyH_ready (rs := [27]) (by kernel_rfl) (by simp) ?_
  refine allCall (f := 24) (args := #[.pointer (some ⟨db, 0, none⟩)]) rfl (by kernel_rfl) (by kernel_rfl) ?_ AllReadyH.nil
  refine Ops_any T db d w3 ((HD.out.below HB1.out).below hHeld) _ ⟨_, rfl, hHeld, ?_⟩
  try simp only [Act.put, List.getElem_toArray, List.getElem_cons_succ, List.getElem_cons_zero, List.setIfInBounds_toArray, List.set_cons_zero, List.set_cons_succ]
  refine wpAnyH_take (i := 35) (v := .bool true) rfl (by kernel_rfl) (by kernel_rfl) (by kernel_rfl) (fun _ _ _ h => h) (Or.inl ⟨by rfl, ?_⟩) hHeld ?_
  · intro w' hSw; go_simp
  try simp only [Act.put, List.getElem_toArray, List.getElem_cons_succ, List.getElem_cons_zero, List.setIfInBounds_toArray, List.set_cons_zero, List.set_cons_succ]
  refine wpAnyH_take (i := 36) (v := .bool true) rfl (by kernel_rfl) (by kernel_rfl) (by kernel_rfl) (fun _ _ _ h => h) (Or.inl ⟨by rfl, ?_⟩) hHeld ?_
  · intro w' hSw; go_simp
  try simp only [Act.put, List.getElem_toArray, List.getElem_cons_succ, List.getElem_cons_zero, List.setIfInBounds_toArray, List.set_cons_zero, List.set_cons_succ]
  refine wpAnyH_take (i := 37) (v := .bool true) rfl (by kernel_rfl) (by kernel_rfl) (by kernel_rfl) (fun _ _ _ h => h) (Or.inl ⟨by rfl, ?_⟩) hHeld ?_
  · intro w' hSw; go_simp
  try simp only [Act.put, List.getElem_toArray, List.getElem_cons_succ, List.getElem_cons_zero, List.setIfInBounds_toArray, List.set_cons_zero, List.set_cons_succ]
  refine wpAnyH_take (i := 38) (v := .pointer (some ⟨pb, 0, none⟩)) rfl (by kernel_rfl) (by kernel_rfl) (by kernel_rfl) (fun _ _ _ h => h) (Or.inl ⟨by rfl, ?_⟩) hHeld ?_
  · intro w' hSw; go_simp
  try simp only [Act.put, List.getElem_toArray, List.getElem_cons_succ, List.getElem_cons_zero, List.setIfInBounds_toArray, List.set_cons_zero, List.set_cons_succ]
  refine wpAnyH_take (i := 39) (v := .pointer (some ⟨pb, 0, none⟩)) rfl (by kernel_rfl) (by kernel_rfl) (by kernel_rfl) (fun _ _ _ h => h) (Or.inl ⟨by rfl, ?_⟩) hHeld ?_
  · intro w' hSw; go_simp
  try simp only [Act.put, List.getElem_toArray, List.getElem_cons_succ, List.getElem_cons_zero, List.setIfInBounds_toArray, List.set_cons_zero, List.set_cons_succ]
  refine wpAnyH_take (i := 40) (v := .pointer (some ⟨pb, 0, none⟩)) rfl (by kernel_rfl) (by kernel_rfl) (by kernel_rfl) (fun _ _ _ h => h) (Or.inl ⟨by rfl, ?_⟩) hHeld ?_
  · intro w' hSw; go_simp
  try simp only [Act.put, List.getElem_toArray, List.getElem_cons_succ, List.getElem_cons_zero, List.setIfInBounds_toArray, List.set_cons_zero, List.set_cons_succ]
  refine wpAnyH_take (i := 41) (v := .pointer (some ⟨db, 0, none⟩)) rfl (by kernel_rfl) (by kernel_rfl) (by kernel_rfl) (fun _ _ _ h => h) (Or.inl ⟨by rfl, ?_⟩) hHeld ?_
  · intro w' hSw; have kx := (World.cell?_of_block (hSw.block _ qpl1 )).trans p10; go_simp
  try simp only [Act.put, List.getElem_toArray, List.getElem_cons_succ, List.getElem_cons_zero, List.setIfInBounds_toArray, List.set_cons_zero, List.set_cons_succ]
  refine wpAnyH_take (i := 43) (v := .pointer (some ⟨pb, 0, none⟩)) rfl (by kernel_rfl) (by kernel_rfl) (by kernel_rfl) (fun _ _ _ h => h) (Or.inl ⟨by rfl, ?_⟩) hHeld ?_
  · intro w' hSw; go_simp
  try simp only [Act.put, List.getElem_toArray, List.getElem_cons_succ, List.getElem_cons_zero, List.setIfInBounds_toArray, List.set_cons_zero, List.set_cons_succ]
  refine wpAnyH_take (i := 44) (v := .pointer (some ⟨pb, 0, none⟩)) rfl (by kernel_rfl) (by kernel_rfl) (by kernel_rfl) (fun _ _ _ h => h) (Or.inl ⟨by rfl, ?_⟩) hHeld ?_
  · intro w' hSw; go_simp
  try simp only [Act.put, List.getElem_toArray, List.getElem_cons_succ, List.getElem_cons_zero, List.setIfInBounds_toArray, List.set_cons_zero, List.set_cons_succ]
  refine wpAnyH_take (i := 45) (v := .pointer (some ⟨pb, 1, none⟩)) rfl (by kernel_rfl) (by kernel_rfl) (by kernel_rfl) (fun _ _ _ h => h) (Or.inl ⟨by rfl, ?_⟩) hHeld ?_
  · intro w' hSw; go_simp
  try simp only [Act.put, List.getElem_toArray, List.getElem_cons_succ, List.getElem_cons_zero, List.setIfInBounds_toArray, List.set_cons_zero, List.set_cons_succ]
  refine wpAnyH_take (i := 46) (v := .pointer (some ⟨rb, 0, none⟩)) rfl (by kernel_rfl) (by kernel_rfl) (by kernel_rfl) (fun _ _ _ h => h) (Or.inl ⟨by rfl, ?_⟩) hHeld ?_
  · intro w' hSw; have kx := (World.cell?_of_block (hSw.block _ qpl1 )).trans p11; go_simp
  try simp only [Act.put, List.getElem_toArray, List.getElem_cons_succ, List.getElem_cons_zero, List.setIfInBounds_toArray, List.set_cons_zero, List.set_cons_succ]
  refine wpAnyH_take (i := 47) (v := .pointer (some ⟨rb, 0, none⟩)) rfl (by kernel_rfl) (by kernel_rfl) (by kernel_rfl) (fun _ _ _ h => h) (Or.inl ⟨by rfl, ?_⟩) hHeld ?_
  · intro w' hSw; go_simp
  try simp only [Act.put, List.getElem_toArray, List.getElem_cons_succ, List.getElem_cons_zero, List.setIfInBounds_toArray, List.set_cons_zero, List.set_cons_succ]
  refine wpAnyH_take (i := 48) (v := .pointer (some ⟨rb, 0, none⟩)) rfl (by kernel_rfl) (by kernel_rfl) (by kernel_rfl) (fun _ _ _ h => h) (Or.inl ⟨by rfl, ?_⟩) hHeld ?_
  · intro w' hSw; go_simp
  try simp only [Act.put, List.getElem_toArray, List.getElem_cons_succ, List.getElem_cons_zero, List.setIfInBounds_toArray, List.set_cons_zero, List.set_cons_succ]
  refine wpAnyH_take (i := 49) (v := .slice (some ⟨lb, 0, none⟩) d.safe.length c) rfl (by kernel_rfl) (by kernel_rfl) (by kernel_rfl) (fun _ _ _ h => h) (Or.inl ⟨by rfl, ?_⟩) hHeld ?_
  · intro w' hSw; have kx := (World.cell?_of_block (hSw.block _ rlt )).trans r0; go_simp
  try simp only [Act.put, List.getElem_toArray, List.getElem_cons_succ, List.getElem_cons_zero, List.setIfInBounds_toArray, List.set_cons_zero, List.set_cons_succ]
  refine wpAnyH_take (i := 50) (v := .int .i64 ((d.safe.length : Int))) rfl (by kernel_rfl) (by kernel_rfl) (by kernel_rfl) (fun _ _ _ h => h) (Or.inl ⟨by rfl, ?_⟩) hHeld ?_
  · intro w' hSw; go_simp
  try simp only [Act.put, List.getElem_toArray, List.getElem_cons_succ, List.getElem_cons_zero, List.setIfInBounds_toArray, List.set_cons_zero, List.set_cons_succ]
  refine wpAnyH_ready (rs := [42]) (by kernel_rfl) (by simp) ?_
  refine allCall (f := 27) (args := #[.pointer (some ⟨db, 0, none⟩)]) rfl (by kernel_rfl) (by kernel_rfl) ?_ AllReadyH.nil
  refine Len_any T db d w3 ((HD.out.below HB1.out).below hHeld) _ ⟨_, rfl, hHeld, ?_⟩
  try simp only [Act.put, List.getElem_toArray, List.getElem_cons_succ, List.getElem_cons_zero, List.setIfInBounds_toArray, List.set_cons_zero, List.set_cons_succ]
  refine wpAnyH_take (i := 51) (v := .bool true) rfl (by kernel_rfl) (by kernel_rfl) (by kernel_rfl) (fun _ _ _ h => h) (Or.inl ⟨by rfl, ?_⟩) hHeld ?_
  · intro w' hSw; go_simp
  try simp only [Act.put, List.getElem_toArray, List.getElem_cons_succ, List.getElem_cons_zero, List.setIfInBounds_toArray, List.set_cons_zero, List.set_cons_succ]
  refine wpAnyH_take (i := 52) (v := .bool true) rfl (by kernel_rfl) (by kernel_rfl) (by kernel_rfl) (fun _ _ _ h => h) (Or.inl ⟨by rfl, ?_⟩) hHeld ?_
  · intro w' hSw; go_simp
  try simp only [Act.put, List.getElem_toArray, List.getElem_cons_succ, List.getElem_cons_zero, List.setIfInBounds_toArray, List.set_cons_zero, List.set_cons_succ]
  refine wpAnyH_take (i := 53) (v := .bool true) rfl (by kernel_rfl) (by kernel_rfl) (by kernel_rfl) (fun _ _ _ h => h) (Or.inl ⟨by rfl, ?_⟩) hHeld ?_
  · intro w' hSw; go_simp
  try simp only [Act.put, List.getElem_toArray, List.getElem_cons_succ, List.getElem_cons_zero, List.setIfInBounds_toArray, List.set_cons_zero, List.set_cons_succ]
  refine wpAnyH_done (by kernel_rfl) ?_ _
  clear hHeld
  have HF := Lib.hid hH3
  clear hH3
  have hr := HR.out w3 (H.out.on HBa.out (Below.only HB1.out) (Below.only HF.out) (Below.refl _ _)) ⟨_, _, _, _, H.out.turn HBa.out (Below.only HB1.out) (Below.only HF.out) (Below.refl _ _) (d' := Dk.act d ⟨7, i, n, data, raw, keep, tn, at'⟩) (by rw [act7]; exact (HD.out.below HB1.out).below HF.out) (by rw [act7]; exact HU1.out.below HF.out) (fun _ e => .inl e) (fun _ e => .inl e) rfl⟩
  go_wp2_with fail
  first | exact hr | exact fin hr rfl
set_option maxRecDepth 100000 in
set_option maxHeartbeats 8000000 in
theorem dox_any (S : Nat → Prop) (lo hi pb m : Nat) (d : Dk) (x : DOp) (cs : List Value) (w : World) (h : PrAt w S pb d) (hb : Bnd d m) (hm : m < 100000) (hx : opE lo hi w cs x) (hhi : hi ≤ w.heap.size) (hap : ∀ k, S k → k < lo ∨ hi ≤ k) (hl : x.data.length ≤ 300) (hk : NotKind x.kind)
    (R : Ending → World → Prop) (hR : ∀ w', Only S w w' → PrAt w' (Wid S w.heap.size w'.heap.size) pb (d.act x) → R (.returned (.bool true)) w') :
    Calls Try.prog 22 #[.pointer (some ⟨pb, 0, none⟩), .agg cs.toArray] w R := by
  obtain ⟨T, U, db, rb, h⟩ := h
  obtain ⟨kind, i, n, data, raw, keep, tn, at'⟩ := x
  obtain ⟨dv, kv, rfl, hdv, hkv⟩ := hx
  simp only at hk hdv hkv hl
  skip
  obtain ⟨ad, cd, rfl, -, -, -, -⟩ := hdv.form
  obtain ⟨ak, ck, rfl, -, -, -, -⟩ := hkv.form
  have H := Lib.hid h
  have HR := Lib.hid hR
  have Hb := Lib.hid hb
  have Hap := Lib.hid hap
  have Hlt := Lib.hid h.lt
  have hpl := h.pd.lt
  have hal := alloc_below w (.cells #[.int .i64 kind, .int .i64 i, .int .i64 n, .slice ad data.length cd, .bool raw, .slice ak keep.length ck, .int .i64 tn, .int .i64 at'] 36)
  have hb8 := Blk.new w [.int .i64 kind, .int .i64 i, .int .i64 n, .slice ad data.length cd, .bool raw, .slice ak keep.length ck, .int .i64 tn, .int .i64 at'] 36 rfl
  have Hdv := Lib.hid (Sl.below hdv (flat_loc _) hal hhi)
  have Hkv := Lib.hid (Sl.below hkv (flat_loc _) hal hhi)
  clear h hR hb hap hdv hkv
  go_enter Try.func22, Try.ntmps22
  go_upto_region 1 with fail
  generalize w.alloc (.cells #[.int .i64 kind, .int .i64 i, .int .i64 n, .slice ad data.length cd, .bool raw, .slice ak keep.length ck, .int .i64 tn, .int .i64 at'] 36) = wb at *
  have hzb := hal.size
  have hhb : hi ≤ wb.heap.size := Nat.le_trans hhi hzb
  have q8 := hb8.lt
  obtain ⟨x0, x1, x2, x3, x4, x5, x6, x7⟩ := hb8.cells.c8
  have HBb := Lib.hid hal
  have H8 := Lib.hid hb8
  clear hal hb8
  go_wp2_with fail
  refine Full_any lo hi _ data wb Hdv.out hhb _ (fun wf hBf hbf => ?_)
  have hzf := hBf.size
  have HBf := Lib.hid (HBb.out.trans (hBf.mono hzb))
  have H8f := Lib.hid (H8.out.below hBf q8)
  have Hdf := Lib.hid (Sl.below Hdv.out (flat_loc _) hBf hhb)
  have Hkf := Lib.hid (Sl.below Hkv.out (flat_loc _) hBf hhb)
  have hhf : hi ≤ wf.heap.size := Nat.le_trans hhb hzf
  have Hof := Lib.hid (full_own hbf (Nat.le_refl _))
  have q8f : w.heap.size < wf.heap.size := by omega
  clear x0 x1 x2 x3 x4 x5 x6 x7 hBf hbf Hdv Hkv H8
  obtain ⟨x0, x1, x2, x3, x4, x5, x6, x7⟩ := H8f.out.cells.c8
  go_upto_if 29 with fail
  go_cut [5] from 30 to 33 (fun t5 wx => ∃ p c, t5 = .slice p (if raw then data else full data).length c ∧ OwnB wb.heap.size wx t5 (if raw then data else full data) ∧ Below wf.heap.size wf wx)
  case first =>
    as_aux_lemma =>
    cases raw with
    | false =>
      go_wp2_with fail
      go_meet
      exact ⟨_, _, by rw [if_neg (by decide), full_length], by rw [if_neg (by decide)]; exact Hof.out, Below.refl _ _⟩
    | true =>
      obtain ⟨pk, ck2, wcc, hrunk, hkc, hBc⟩ := copyD Hdf.out hhf (by omega) (n := wf.heap.size) rfl
      go_wp2_with (at_builtin; refine AtApp.of ?_)
      refine AtApp.go hrunk rfl rfl rfl rfl ?_
      clear hrunk
      go_wp2_with fail
      go_meet
      exact ⟨_, _, by first | rw [if_pos rfl] | rw [if_pos trivial], ifp (Own.mono0 hkc hzf), hBc⟩
  case rest =>
  obtain ⟨pd, cd2, rfl, hoc, hBc⟩ := hcut
  obtain ⟨wa, ewa⟩ : ∃ x, x = wc := ⟨_, rfl⟩
  subst ewa
  have hza := hBc.size
  have HBa := Lib.hid (HBf.out.trans (hBc.mono (by omega)))
  have H8a := Lib.hid (H8f.out.below hBc q8f)
  have Hda := Lib.hid (show OwnB wb.heap.size wa (.slice pd (if raw then data else full data).length cd2) (if raw then data else full data) from hoc)
  have Hka := Lib.hid (Sl.below Hkf.out (flat_loc _) hBc hhf)
  have hha : hi ≤ wa.heap.size := Nat.le_trans hhf hza
  have q8a : w.heap.size < wa.heap.size := by omega
  have qwb : w.heap.size < wb.heap.size := q8
  have Hby : Hid (DOp.bytes ⟨kind, i, n, data, raw, keep, tn, at'⟩ = if raw then data else full data) := Lib.hid rfl
  have hdl : (if raw then data else full data).length ≤ 300 := by
    cases raw
    · rw [if_neg (by decide), full_length]; omega
    · rw [if_pos rfl]; exact hl
  have hcv := fun q => str (Sl.below Hda.out.bytes (flat_loc _) (drewN (Below.refl wa.heap.size wa) q) (Nat.le_refl _))
  have hcv0 := str Hda.out.bytes
  clear x0 x1 x2 x3 x4 x5 x6 x7 hoc hBc HBf H8f Hdf Hkf Hof
  generalize (if raw then data else full data) = b at *
  obtain ⟨x0, x1, x2, x3, x4, x5, x6, x7⟩ := H8a.out.cells.c8
  go_upto_region 7 with fail
  obtain ⟨p0, p1⟩ := H.out.cells (w' := wa) (HBa.out.block pb hpl)
  have HD := Lib.hid (H.out.hd.below HBa.out)
  have HU := Lib.hid (H.out.hr.below HBa.out)
  have hO0 : Only T wa wa := Only.refl _ _
  have hO1 : Only U wa wa := Only.refl _ _
  have hr := HR.out wa (H.out.on HBa.out hO0 hO1 (Below.refl _ _)) ⟨_, _, _, _, H.out.turn HBa.out hO0 hO1 (Below.refl _ _) (d' := Dk.act d ⟨kind, i, n, data, raw, keep, tn, at'⟩) (by rw [actX _ _ _ _ _ _ _ _ _ hk]; exact HD.out) (by rw [actX _ _ _ _ _ _ _ _ _ hk]; exact HU.out) (fun _ e => .inl e) (fun _ e => .inl e) rfl⟩
  obtain ⟨n0, n1, n2, n3, n4, n5, n6, n7⟩ := hk
  clear hO0 hO1
  go_wp2_with fail
  first | exact hr | exact fin hr rfl
end Go.Proofs.Ytfmpafheodpfoaa
