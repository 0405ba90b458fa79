/- A call of a pair: the walk, for each kind of call. (Printed by diskpl.py.) -/
import Derived.Test.YtfmpafheodpfoaaDiskDr
namespace Go.Proofs.Ytfmpafheodpfoaa
open Go.RowKit
attribute [local go_sem ↓] Go.wp_at_zero Go.wp_at_succ
set_option linter.unusedVariables false
set_option linter.unusedSimpArgs false

set_option maxRecDepth 100000 in
set_option maxHeartbeats 8000000 in
theorem do2_any (S : Nat → Prop) (lo hi pb m : Nat) (d : Dk) (x : DOp) (cs : List Value) (w : World) (h : PrAt w S pb d) (hb : Bnd d m) (hm : m < 100000) (hx : opE lo hi w cs x) (hhi : hi ≤ w.heap.size) (hap : ∀ k, S k → k < lo ∨ hi ≤ k) (hl : x.data.length ≤ 300) (hk : x.kind = 2)
    (R : Ending → World → Prop) (hR : ∀ w', Only S w w' → PrAt w' (Wid S w.heap.size w'.heap.size) pb (d.act x) → R (.returned (.bool true)) w') :
    Calls Try.prog 22 #[.pointer (some ⟨pb, 0, none⟩), .agg cs.toArray] w R := by
  obtain ⟨T, U, db, rb, h⟩ := h
  obtain ⟨kind, i, n, data, raw, keep, tn, at'⟩ := x
  obtain ⟨dv, kv, rfl, hdv, hkv⟩ := hx
  simp only at hk hdv hkv hl
  subst hk
  obtain ⟨ad, cd, rfl, -, -, -, -⟩ := hdv.form
  obtain ⟨ak, ck, rfl, -, -, -, -⟩ := hkv.form
  have H := Lib.hid h
  have HR := Lib.hid hR
  have Hb := Lib.hid hb
  have Hap := Lib.hid hap
  have Hlt := Lib.hid h.lt
  have hpl := h.pd.lt
  have hal := alloc_below w (.cells #[.int .i64 2, .int .i64 i, .int .i64 n, .slice ad data.length cd, .bool raw, .slice ak keep.length ck, .int .i64 tn, .int .i64 at'] 36)
  have hb8 := Blk.new w [.int .i64 2, .int .i64 i, .int .i64 n, .slice ad data.length cd, .bool raw, .slice ak keep.length ck, .int .i64 tn, .int .i64 at'] 36 rfl
  have Hdv := Lib.hid (Sl.below hdv (flat_loc _) hal hhi)
  have Hkv := Lib.hid (Sl.below hkv (flat_loc _) hal hhi)
  clear h hR hb hap hdv hkv
  go_enter Try.func22, Try.ntmps22
  go_upto_region 1 with fail
  generalize w.alloc (.cells #[.int .i64 2, .int .i64 i, .int .i64 n, .slice ad data.length cd, .bool raw, .slice ak keep.length ck, .int .i64 tn, .int .i64 at'] 36) = wb at *
  have hzb := hal.size
  have hhb : hi ≤ wb.heap.size := Nat.le_trans hhi hzb
  have q8 := hb8.lt
  obtain ⟨x0, x1, x2, x3, x4, x5, x6, x7⟩ := hb8.cells.c8
  have HBb := Lib.hid hal
  have H8 := Lib.hid hb8
  clear hal hb8
  go_wp2_with fail
  refine Full_any lo hi _ data wb Hdv.out hhb _ (fun wf hBf hbf => ?_)
  have hzf := hBf.size
  have HBf := Lib.hid (HBb.out.trans (hBf.mono hzb))
  have H8f := Lib.hid (H8.out.below hBf q8)
  have Hdf := Lib.hid (Sl.below Hdv.out (flat_loc _) hBf hhb)
  have Hkf := Lib.hid (Sl.below Hkv.out (flat_loc _) hBf hhb)
  have hhf : hi ≤ wf.heap.size := Nat.le_trans hhb hzf
  have Hof := Lib.hid (full_own hbf (Nat.le_refl _))
  have q8f : w.heap.size < wf.heap.size := by omega
  clear x0 x1 x2 x3 x4 x5 x6 x7 hBf hbf Hdv Hkv H8
  obtain ⟨x0, x1, x2, x3, x4, x5, x6, x7⟩ := H8f.out.cells.c8
  go_upto_if 29 with fail
  go_cut [5] from 30 to 33 (fun t5 wx => ∃ p c, t5 = .slice p (if raw then data else full data).length c ∧ OwnB wb.heap.size wx t5 (if raw then data else full data) ∧ Below wf.heap.size wf wx)
  case first =>
    as_aux_lemma =>
    cases raw with
    | false =>
      go_wp2_with fail
      go_meet
      exact ⟨_, _, by rw [if_neg (by decide), full_length], by rw [if_neg (by decide)]; exact Hof.out, Below.refl _ _⟩
    | true =>
      obtain ⟨pk, ck2, wcc, hrunk, hkc, hBc⟩ := copyD Hdf.out hhf (by omega) (n := wf.heap.size) rfl
      go_wp2_with (at_builtin; refine AtApp.of ?_)
      refine AtApp.go hrunk rfl rfl rfl rfl ?_
      clear hrunk
      go_wp2_with fail
      go_meet
      exact ⟨_, _, by first | rw [if_pos rfl] | rw [if_pos trivial], ifp (Own.mono0 hkc hzf), hBc⟩
  case rest =>
  obtain ⟨pd, cd2, rfl, hoc, hBc⟩ := hcut
  obtain ⟨wa, ewa⟩ : ∃ x, x = wc := ⟨_, rfl⟩
  subst ewa
  have hza := hBc.size
  have HBa := Lib.hid (HBf.out.trans (hBc.mono (by omega)))
  have H8a := Lib.hid (H8f.out.below hBc q8f)
  have Hda := Lib.hid (show OwnB wb.heap.size wa (.slice pd (if raw then data else full data).length cd2) (if raw then data else full data) from hoc)
  have Hka := Lib.hid (Sl.below Hkf.out (flat_loc _) hBc hhf)
  have hha : hi ≤ wa.heap.size := Nat.le_trans hhf hza
  have q8a : w.heap.size < wa.heap.size := by omega
  have qwb : w.heap.size < wb.heap.size := q8
  have Hby : Hid (DOp.bytes ⟨2, i, n, data, raw, keep, tn, at'⟩ = if raw then data else full data) := Lib.hid rfl
  have hdl : (if raw then data else full data).length ≤ 300 := by
    cases raw
    · rw [if_neg (by decide), full_length]; omega
    · rw [if_pos rfl]; exact hl
  have hcv := fun q => str (Sl.below Hda.out.bytes (flat_loc _) (drewN (Below.refl wa.heap.size wa) q) (Nat.le_refl _))
  have hcv0 := str Hda.out.bytes
  clear x0 x1 x2 x3 x4 x5 x6 x7 hoc hBc HBf H8f Hdf Hkf Hof
  generalize (if raw then data else full data) = b at *
  obtain ⟨x0, x1, x2, x3, x4, x5, x6, x7⟩ := H8a.out.cells.c8
  go_upto_region 7 with fail
  obtain ⟨p0, p1⟩ := H.out.cells (w' := wa) (HBa.out.block pb hpl)
  have HD := Lib.hid (H.out.hd.below HBa.out)
  have HU := Lib.hid (H.out.hr.below HBa.out)
  have qpl : pb < wa.heap.size := Nat.lt_of_lt_of_le hpl HBa.out.size
  have HTl : Hid (∀ k, T k → k < wa.heap.size) := Lib.hid (fun k e => by have := Hlt.out k (H.out.t k e).1; omega)
  have HUl : Hid (∀ k, U k → k < wa.heap.size) := Lib.hid (fun k e => by have := Hlt.out k (H.out.u k e).1; omega)
  go_wp2_with fail
  refine wp_region_held_drew (S := fun w' => Below wa.heap.size wa w') (by kernel_rfl) (Below.drew (Below.refl _ _)) (fun hHeld => ?_)
  refine wpAnyH_take (i := 0) (v := .pointer (some ⟨pb, 0, none⟩)) rfl (by kernel_rfl) (by kernel_rfl) (by kernel_rfl) (fun _ _ _ h => h) (Or.inl ⟨by rfl, ?_⟩) hHeld ?_
  · intro w' hSw; go_simp
  try simp only [Act.put, List.getElem_toArray, List.getElem_cons_succ, List.getElem_cons_zero, List.setIfInBounds_toArray, List.set_cons_zero, List.set_cons_succ]
  refine wpAnyH_take (i := 1) (v := .pointer (some ⟨pb, 0, none⟩)) rfl (by kernel_rfl) (by kernel_rfl) (by kernel_rfl) (fun _ _ _ h => h) (Or.inl ⟨by rfl, ?_⟩) hHeld ?_
  · intro w' hSw; go_simp
  try simp only [Act.put, List.getElem_toArray, List.getElem_cons_succ, List.getElem_cons_zero, List.setIfInBounds_toArray, List.set_cons_zero, List.set_cons_succ]
  refine wpAnyH_take (i := 2) (v := .pointer (some ⟨pb, 0, none⟩)) rfl (by kernel_rfl) (by kernel_rfl) (by kernel_rfl) (fun _ _ _ h => h) (Or.inl ⟨by rfl, ?_⟩) hHeld ?_
  · intro w' hSw; go_simp
  try simp only [Act.put, List.getElem_toArray, List.getElem_cons_succ, List.getElem_cons_zero, List.setIfInBounds_toArray, List.set_cons_zero, List.set_cons_succ]
  refine wpAnyH_take (i := 3) (v := .pointer (some ⟨db, 0, none⟩)) rfl (by kernel_rfl) (by kernel_rfl) (by kernel_rfl) (fun _ _ _ h => h) (Or.inl ⟨by rfl, ?_⟩) hHeld ?_
  · intro w' hSw; have kx := (World.cell?_of_block (hSw.block _ qpl )).trans p0; go_simp
  try simp only [Act.put, List.getElem_toArray, List.getElem_cons_succ, List.getElem_cons_zero, List.setIfInBounds_toArray, List.set_cons_zero, List.set_cons_succ]
  refine wpAnyH_take (i := 4) (v := .pointer (some ⟨w.heap.size, 1, none⟩)) rfl (by kernel_rfl) (by kernel_rfl) (by kernel_rfl) (fun _ _ _ h => h) (Or.inl ⟨by rfl, ?_⟩) hHeld ?_
  · intro w' hSw; go_simp
  try simp only [Act.put, List.getElem_toArray, List.getElem_cons_succ, List.getElem_cons_zero, List.setIfInBounds_toArray, List.set_cons_zero, List.set_cons_succ]
  refine wpAnyH_take (i := 5) (v := .int .i64 i) rfl (by kernel_rfl) (by kernel_rfl) (by kernel_rfl) (fun _ _ _ h => h) (Or.inl ⟨by rfl, ?_⟩) hHeld ?_
  · intro w' hSw; have kx := (World.cell?_of_block (hSw.block _ q8a )).trans x1; go_simp
  try simp only [Act.put, List.getElem_toArray, List.getElem_cons_succ, List.getElem_cons_zero, List.setIfInBounds_toArray, List.set_cons_zero, List.set_cons_succ]
  refine wpAnyH_ready (rs := [6]) (by kernel_rfl) (by simp) ?_
  refine allCall (f := 14) (args := #[.pointer (some ⟨db, 0, none⟩), .int .i64 i]) rfl (by kernel_rfl) (by kernel_rfl) ?_ AllReadyH.nil
  refine Read_one T wa.heap.size db d i wa.drew (Nat.le_refl _) (HD.out.keep (fun _ _ _ => rfl) (fun _ e => e)) _ (fun w1 pr cr hB ho => ?_)
  have hB1' : Below wa.heap.size wa w1 := hHeld.trans hB
  refine ⟨_, rfl, hB1', ?_⟩
  clear hHeld
  have hHeld := hB1'
  try simp only [Act.put, List.getElem_toArray, List.getElem_cons_succ, List.getElem_cons_zero, List.setIfInBounds_toArray, List.set_cons_zero, List.set_cons_succ]
  refine wpAnyH_take (i := 7) (v := .tuple #[.slice pr (d.readV i).length cr, .int .i64 (upE d.safe.length d.down i)]) rfl (by kernel_rfl) (by kernel_rfl) (by kernel_rfl) (fun _ _ _ h => h) (Or.inl ⟨by rfl, ?_⟩) hHeld ?_
  · intro w' hSw; go_simp
  try simp only [Act.put, List.getElem_toArray, List.getElem_cons_succ, List.getElem_cons_zero, List.setIfInBounds_toArray, List.set_cons_zero, List.set_cons_succ]
  refine wpAnyH_take (i := 8) (v := .slice pr (d.readV i).length cr) rfl (by kernel_rfl) (by kernel_rfl) (by kernel_rfl) (fun _ _ _ h => h) (Or.inl ⟨by rfl, ?_⟩) hHeld ?_
  · intro w' hSw; go_simp
  try simp only [Act.put, List.getElem_toArray, List.getElem_cons_succ, List.getElem_cons_zero, List.setIfInBounds_toArray, List.set_cons_zero, List.set_cons_succ]
  refine wpAnyH_take (i := 9) (v := .int .i64 (upE d.safe.length d.down i)) rfl (by kernel_rfl) (by kernel_rfl) (by kernel_rfl) (fun _ _ _ h => h) (Or.inl ⟨by rfl, ?_⟩) hHeld ?_
  · intro w' hSw; go_simp
  try simp only [Act.put, List.getElem_toArray, List.getElem_cons_succ, List.getElem_cons_zero, List.setIfInBounds_toArray, List.set_cons_zero, List.set_cons_succ]
  refine wpAnyH_take (i := 10) (v := .slice pr (d.readV i).length cr) rfl (by kernel_rfl) (by kernel_rfl) (by kernel_rfl) (fun _ _ _ h => h) (Or.inl ⟨by rfl, ?_⟩) hHeld ?_
  · intro w' hSw; go_simp
  try simp only [Act.put, List.getElem_toArray, List.getElem_cons_succ, List.getElem_cons_zero, List.setIfInBounds_toArray, List.set_cons_zero, List.set_cons_succ]
  refine wpAnyH_take (i := 11) (v := .int .i64 (upE d.safe.length d.down i)) rfl (by kernel_rfl) (by kernel_rfl) (by kernel_rfl) (fun _ _ _ h => h) (Or.inl ⟨by rfl, ?_⟩) hHeld ?_
  · intro w' hSw; go_simp
  try simp only [Act.put, List.getElem_toArray, List.getElem_cons_succ, List.getElem_cons_zero, List.setIfInBounds_toArray, List.set_cons_zero, List.set_cons_succ]
  refine wpAnyH_done (by kernel_rfl) ?_ _
  clear hHeld
  have HB1 := Lib.hid hB1'
  have Hs1 := Lib.hid ho
  clear hB1' hB ho
  have hz1 := HB1.out.size
  obtain ⟨p10, p11⟩ := H.out.cells (w' := w1) ((HB1.out.block pb qpl).trans (HBa.out.block pb hpl))
  have H81 := Lib.hid (H8a.out.below HB1.out q8a)
  have q81 : w.heap.size < w1.heap.size := by omega
  have qpl1 : pb < w1.heap.size := by omega
  have HU1 := Lib.hid (HU.out.below HB1.out)
  obtain ⟨y0, y1, y2, y3, y4, y5, y6, y7⟩ := H81.out.cells.c8
  clear x0 x1 x2 x3 x4 x5 x6 x7
  go_wp2_with fail
  refine wp_region_held_drew (S := fun w' => Below w1.heap.size w1 w') (by kernel_rfl) (Below.drew (Below.refl _ _)) (fun hHeld => ?_)
  refine wpAnyH_take (i := 0) (v := .pointer (some ⟨pb, 0, none⟩)) rfl (by kernel_rfl) (by kernel_rfl) (by kernel_rfl) (fun _ _ _ h => h) (Or.inl ⟨by rfl, ?_⟩) hHeld ?_
  · intro w' hSw; go_simp
  try simp only [Act.put, List.getElem_toArray, List.getElem_cons_succ, List.getElem_cons_zero, List.setIfInBounds_toArray, List.set_cons_zero, List.set_cons_succ]
  refine wpAnyH_take (i := 1) (v := .pointer (some ⟨pb, 0, none⟩)) rfl (by kernel_rfl) (by kernel_rfl) (by kernel_rfl) (fun _ _ _ h => h) (Or.inl ⟨by rfl, ?_⟩) hHeld ?_
  · intro w' hSw; go_simp
  try simp only [Act.put, List.getElem_toArray, List.getElem_cons_succ, List.getElem_cons_zero, List.setIfInBounds_toArray, List.set_cons_zero, List.set_cons_succ]
  refine wpAnyH_take (i := 2) (v := .pointer (some ⟨pb, 1, none⟩)) rfl (by kernel_rfl) (by kernel_rfl) (by kernel_rfl) (fun _ _ _ h => h) (Or.inl ⟨by rfl, ?_⟩) hHeld ?_
  · intro w' hSw; go_simp
  try simp only [Act.put, List.getElem_toArray, List.getElem_cons_succ, List.getElem_cons_zero, List.setIfInBounds_toArray, List.set_cons_zero, List.set_cons_succ]
  refine wpAnyH_take (i := 3) (v := .pointer (some ⟨rb, 0, none⟩)) rfl (by kernel_rfl) (by kernel_rfl) (by kernel_rfl) (fun _ _ _ h => h) (Or.inl ⟨by rfl, ?_⟩) hHeld ?_
  · intro w' hSw; have kx := (World.cell?_of_block (hSw.block _ qpl1 )).trans p11; go_simp
  try simp only [Act.put, List.getElem_toArray, List.getElem_cons_succ, List.getElem_cons_zero, List.setIfInBounds_toArray, List.set_cons_zero, List.set_cons_succ]
  refine wpAnyH_take (i := 4) (v := .pointer (some ⟨w.heap.size, 1, none⟩)) rfl (by kernel_rfl) (by kernel_rfl) (by kernel_rfl) (fun _ _ _ h => h) (Or.inl ⟨by rfl, ?_⟩) hHeld ?_
  · intro w' hSw; go_simp
  try simp only [Act.put, List.getElem_toArray, List.getElem_cons_succ, List.getElem_cons_zero, List.setIfInBounds_toArray, List.set_cons_zero, List.set_cons_succ]
  refine wpAnyH_take (i := 5) (v := .int .i64 i) rfl (by kernel_rfl) (by kernel_rfl) (by kernel_rfl) (fun _ _ _ h => h) (Or.inl ⟨by rfl, ?_⟩) hHeld ?_
  · intro w' hSw; have kx := (World.cell?_of_block (hSw.block _ q81 )).trans y1; go_simp
  try simp only [Act.put, List.getElem_toArray, List.getElem_cons_succ, List.getElem_cons_zero, List.setIfInBounds_toArray, List.set_cons_zero, List.set_cons_succ]
  refine wpAnyH_ready (rs := [6]) (by kernel_rfl) (by simp) ?_
  refine allCall (f := 41) (args := #[.pointer (some ⟨rb, 0, none⟩), .int .i64 i]) rfl (by kernel_rfl) (by kernel_rfl) ?_ AllReadyH.nil
  refine ReadR_one U rb m d i w1.drew (HU1.out.keep (fun _ _ _ => rfl) (fun _ e => e)) Hb.out hm _ (fun w2 hB => ?_)
  have hB2' : Below w1.heap.size w1 w2 := hHeld.trans hB
  refine ⟨_, rfl, hB2', ?_⟩
  clear hHeld
  have hHeld := hB2'
  try simp only [Act.put, List.getElem_toArray, List.getElem_cons_succ, List.getElem_cons_zero, List.setIfInBounds_toArray, List.set_cons_zero, List.set_cons_succ]
  refine wpAnyH_take (i := 7) (v := .tuple #[.string ⟨(d.readV i).toArray⟩, .int .i64 (upE d.safe.length d.down i)]) rfl (by kernel_rfl) (by kernel_rfl) (by kernel_rfl) (fun _ _ _ h => h) (Or.inl ⟨by rfl, ?_⟩) hHeld ?_
  · intro w' hSw; go_simp
  try simp only [Act.put, List.getElem_toArray, List.getElem_cons_succ, List.getElem_cons_zero, List.setIfInBounds_toArray, List.set_cons_zero, List.set_cons_succ]
  refine wpAnyH_take (i := 8) (v := .string ⟨(d.readV i).toArray⟩) rfl (by kernel_rfl) (by kernel_rfl) (by kernel_rfl) (fun _ _ _ h => h) (Or.inl ⟨by rfl, ?_⟩) hHeld ?_
  · intro w' hSw; go_simp
  try simp only [Act.put, List.getElem_toArray, List.getElem_cons_succ, List.getElem_cons_zero, List.setIfInBounds_toArray, List.set_cons_zero, List.set_cons_succ]
  refine wpAnyH_take (i := 9) (v := .int .i64 (upE d.safe.length d.down i)) rfl (by kernel_rfl) (by kernel_rfl) (by kernel_rfl) (fun _ _ _ h => h) (Or.inl ⟨by rfl, ?_⟩) hHeld ?_
  · intro w' hSw; go_simp
  try simp only [Act.put, List.getElem_toArray, List.getElem_cons_succ, List.getElem_cons_zero, List.setIfInBounds_toArray, List.set_cons_zero, List.set_cons_succ]
  refine wpAnyH_take (i := 10) (v := .string ⟨(d.readV i).toArray⟩) rfl (by kernel_rfl) (by kernel_rfl) (by kernel_rfl) (fun _ _ _ h => h) (Or.inl ⟨by rfl, ?_⟩) hHeld ?_
  · intro w' hSw; go_simp
  try simp only [Act.put, List.getElem_toArray, List.getElem_cons_succ, List.getElem_cons_zero, List.setIfInBounds_toArray, List.set_cons_zero, List.set_cons_succ]
  refine wpAnyH_take (i := 11) (v := .int .i64 (upE d.safe.length d.down i)) rfl (by kernel_rfl) (by kernel_rfl) (by kernel_rfl) (fun _ _ _ h => h) (Or.inl ⟨by rfl, ?_⟩) hHeld ?_
  · intro w' hSw; go_simp
  try simp only [Act.put, List.getElem_toArray, List.getElem_cons_succ, List.getElem_cons_zero, List.setIfInBounds_toArray, List.set_cons_zero, List.set_cons_succ]
  refine wpAnyH_done (by kernel_rfl) ?_ _
  clear hHeld
  have HB2 := Lib.hid hB2'
  clear hB2' hB
  have hz2 := HB2.out.size
  have Hs2 := Lib.hid (Own.kept Hs1.out HB2.out)
  clear y0 y1 y2 y3 y4 y5 y6 y7 p0 p1 p10 p11
  generalize d.readV i = s at *
  generalize upE d.safe.length d.down i = ee at *
  have hcv2 := str (OwnB.bytes Hs2.out)
  have hsl := (OwnB.bytes Hs2.out).len
  go_wp2_with fail
  go_loopw [119] (fun tk wr => ∃ k : Nat, k ≤ s.length ∧ tk = .int .i64 (k : Int) ∧ Only (fun q => Value.ownBlock (.slice pr s.length cr) = some q) w2 wr ∧ Some8 wa.heap.size s.length (.slice pr s.length cr) wr) (fun tk _ => s.length - (intOf tk).toNat)
  case atStart => exact ⟨0, Nat.zero_le _, rfl, Only.refl _ _, ⟨_, rfl, Hs2.out⟩⟩
  case round =>
    obtain ⟨k, hk1, rfl, hOk, h8⟩ := hrel
    have HOk := Lib.hid hOk
    have k0 : (0 : Int) ≤ (k : Int) := by omega
    clear hOk
    by_cases hkl : k < s.length
    · have kl : (k : Int) < (s.length : Int) := by omega
      have k9 : (k : Int) + 1 ≤ 9223372036854775807 := by omega
      obtain ⟨g1, x, hg, -, c0, f0, h8'⟩ := h8.at k hkl
      subst hg
      rw [← add8m x] at h8'
      have H8 := Lib.hid h8'
      have hx8 := add8 x
      clear h8 h8'
      go_wp2_with fail
      go_roundw
      case rel => exact ⟨k + 1, by omega, by go_num, HOk.out.trans (Only.setCell _ (p := ⟨g1, k, none⟩) (by rfl) _), H8.out⟩
      case measure => first | (simp [intOf]; done) | (simp [intOf]; omega)
    · clear h8
      have hown := Own.lt Hs2.out
      have hB3 : Below w.heap.size w2 wr := HOk.out.below (by omega) (fun q e => by have := (hown q e).1; omega)
      have hD3 := ((HD.out.below HB1.out).below HB2.out).only HOk.out (fun k e _ e2 => by
        have h1 := hown k e2
        have := HTl.out k e
        omega)
      have hU3 := (HU1.out.below HB2.out).only HOk.out (fun k e _ e2 => by
        have h1 := hown k e2
        have := HUl.out k e
        omega)
      have hr := HR.out wr (H.out.on HBa.out (Below.only HB1.out) (Below.only HB2.out) hB3) ⟨_, _, _, _, H.out.turn HBa.out (Below.only HB1.out) (Below.only HB2.out) hB3 (d' := Dk.act d ⟨2, i, n, data, raw, keep, tn, at'⟩) (by rw [act2]; exact hD3) (by rw [act2]; exact hU3) (fun _ e => .inl e) (fun _ e => .inl e) (HOk.out.block pb (by omega) (fun e => by have := (hown pb e).1; omega))⟩
      clear hB3 hD3 hU3 hown
      go_wp2_with fail
      first | exact hr | exact fin hr rfl
set_option maxRecDepth 100000 in
set_option maxHeartbeats 8000000 in
theorem do6_any (S : Nat → Prop) (lo hi pb m : Nat) (d : Dk) (x : DOp) (cs : List Value) (w : World) (h : PrAt w S pb d) (hb : Bnd d m) (hm : m < 100000) (hx : opE lo hi w cs x) (hhi : hi ≤ w.heap.size) (hap : ∀ k, S k → k < lo ∨ hi ≤ k) (hl : x.data.length ≤ 300) (hk : x.kind = 6)
    (R : Ending → World → Prop) (hR : ∀ w', Only S w w' → PrAt w' (Wid S w.heap.size w'.heap.size) pb (d.act x) → R (.returned (.bool true)) w') :
    Calls Try.prog 22 #[.pointer (some ⟨pb, 0, none⟩), .agg cs.toArray] w R := by
  obtain ⟨T, U, db, rb, h⟩ := h
  obtain ⟨kind, i, n, data, raw, keep, tn, at'⟩ := x
  obtain ⟨dv, kv, rfl, hdv, hkv⟩ := hx
  simp only at hk hdv hkv hl
  subst hk
  obtain ⟨ad, cd, rfl, -, -, -, -⟩ := hdv.form
  obtain ⟨ak, ck, rfl, -, -, -, -⟩ := hkv.form
  have H := Lib.hid h
  have HR := Lib.hid hR
  have Hb := Lib.hid hb
  have Hap := Lib.hid hap
  have Hlt := Lib.hid h.lt
  have hpl := h.pd.lt
  have hal := alloc_below w (.cells #[.int .i64 6, .int .i64 i, .int .i64 n, .slice ad data.length cd, .bool raw, .slice ak keep.length ck, .int .i64 tn, .int .i64 at'] 36)
  have hb8 := Blk.new w [.int .i64 6, .int .i64 i, .int .i64 n, .slice ad data.length cd, .bool raw, .slice ak keep.length ck, .int .i64 tn, .int .i64 at'] 36 rfl
  have Hdv := Lib.hid (Sl.below hdv (flat_loc _) hal hhi)
  have Hkv := Lib.hid (Sl.below hkv (flat_loc _) hal hhi)
  clear h hR hb hap hdv hkv
  go_enter Try.func22, Try.ntmps22
  go_upto_region 1 with fail
  generalize w.alloc (.cells #[.int .i64 6, .int .i64 i, .int .i64 n, .slice ad data.length cd, .bool raw, .slice ak keep.length ck, .int .i64 tn, .int .i64 at'] 36) = wb at *
  have hzb := hal.size
  have hhb : hi ≤ wb.heap.size := Nat.le_trans hhi hzb
  have q8 := hb8.lt
  obtain ⟨x0, x1, x2, x3, x4, x5, x6, x7⟩ := hb8.cells.c8
  have HBb := Lib.hid hal
  have H8 := Lib.hid hb8
  clear hal hb8
  go_wp2_with fail
  refine Full_any lo hi _ data wb Hdv.out hhb _ (fun wf hBf hbf => ?_)
  have hzf := hBf.size
  have HBf := Lib.hid (HBb.out.trans (hBf.mono hzb))
  have H8f := Lib.hid (H8.out.below hBf q8)
  have Hdf := Lib.hid (Sl.below Hdv.out (flat_loc _) hBf hhb)
  have Hkf := Lib.hid (Sl.below Hkv.out (flat_loc _) hBf hhb)
  have hhf : hi ≤ wf.heap.size := Nat.le_trans hhb hzf
  have Hof := Lib.hid (full_own hbf (Nat.le_refl _))
  have q8f : w.heap.size < wf.heap.size := by omega
  clear x0 x1 x2 x3 x4 x5 x6 x7 hBf hbf Hdv Hkv H8
  obtain ⟨x0, x1, x2, x3, x4, x5, x6, x7⟩ := H8f.out.cells.c8
  go_upto_if 29 with fail
  go_cut [5] from 30 to 33 (fun t5 wx => ∃ p c, t5 = .slice p (if raw then data else full data).length c ∧ OwnB wb.heap.size wx t5 (if raw then data else full data) ∧ Below wf.heap.size wf wx)
  case first =>
    as_aux_lemma =>
    cases raw with
    | false =>
      go_wp2_with fail
      go_meet
      exact ⟨_, _, by rw [if_neg (by decide), full_length], by rw [if_neg (by decide)]; exact Hof.out, Below.refl _ _⟩
    | true =>
      obtain ⟨pk, ck2, wcc, hrunk, hkc, hBc⟩ := copyD Hdf.out hhf (by omega) (n := wf.heap.size) rfl
      go_wp2_with (at_builtin; refine AtApp.of ?_)
      refine AtApp.go hrunk rfl rfl rfl rfl ?_
      clear hrunk
      go_wp2_with fail
      go_meet
      exact ⟨_, _, by first | rw [if_pos rfl] | rw [if_pos trivial], ifp (Own.mono0 hkc hzf), hBc⟩
  case rest =>
  obtain ⟨pd, cd2, rfl, hoc, hBc⟩ := hcut
  obtain ⟨wa, ewa⟩ : ∃ x, x = wc := ⟨_, rfl⟩
  subst ewa
  have hza := hBc.size
  have HBa := Lib.hid (HBf.out.trans (hBc.mono (by omega)))
  have H8a := Lib.hid (H8f.out.below hBc q8f)
  have Hda := Lib.hid (show OwnB wb.heap.size wa (.slice pd (if raw then data else full data).length cd2) (if raw then data else full data) from hoc)
  have Hka := Lib.hid (Sl.below Hkf.out (flat_loc _) hBc hhf)
  have hha : hi ≤ wa.heap.size := Nat.le_trans hhf hza
  have q8a : w.heap.size < wa.heap.size := by omega
  have qwb : w.heap.size < wb.heap.size := q8
  have Hby : Hid (DOp.bytes ⟨6, i, n, data, raw, keep, tn, at'⟩ = if raw then data else full data) := Lib.hid rfl
  have hdl : (if raw then data else full data).length ≤ 300 := by
    cases raw
    · rw [if_neg (by decide), full_length]; omega
    · rw [if_pos rfl]; exact hl
  have hcv := fun q => str (Sl.below Hda.out.bytes (flat_loc _) (drewN (Below.refl wa.heap.size wa) q) (Nat.le_refl _))
  have hcv0 := str Hda.out.bytes
  clear x0 x1 x2 x3 x4 x5 x6 x7 hoc hBc HBf H8f Hdf Hkf Hof
  generalize (if raw then data else full data) = b at *
  obtain ⟨x0, x1, x2, x3, x4, x5, x6, x7⟩ := H8a.out.cells.c8
  go_upto_region 7 with fail
  obtain ⟨p0, p1⟩ := H.out.cells (w' := wa) (HBa.out.block pb hpl)
  have HD := Lib.hid (H.out.hd.below HBa.out)
  have HU := Lib.hid (H.out.hr.below HBa.out)
  have qpl : pb < wa.heap.size := Nat.lt_of_lt_of_le hpl HBa.out.size
  have HTl : Hid (∀ k, T k → k < wa.heap.size) := Lib.hid (fun k e => by have := Hlt.out k (H.out.t k e).1; omega)
  have HUl : Hid (∀ k, U k → k < wa.heap.size) := Lib.hid (fun k e => by have := Hlt.out k (H.out.u k e).1; omega)
  go_wp2_with fail
  refine wp_region_held_drew (S := fun w' => Below wa.heap.size wa w') (by kernel_rfl) (Below.drew (Below.refl _ _)) (fun hHeld => ?_)
  refine wpAnyH_take (i := 0) (v := .pointer (some ⟨pb, 0, none⟩)) rfl (by kernel_rfl) (by kernel_rfl) (by kernel_rfl) (fun _ _ _ h => h) (Or.inl ⟨by rfl, ?_⟩) hHeld ?_
  · intro w' hSw; go_simp
  try simp only [Act.put, List.getElem_toArray, List.getElem_cons_succ, List.getElem_cons_zero, List.setIfInBounds_toArray, List.set_cons_zero, List.set_cons_succ]
  refine wpAnyH_take (i := 1) (v := .pointer (some ⟨pb, 0, none⟩)) rfl (by kernel_rfl) (by kernel_rfl) (by kernel_rfl) (fun _ _ _ h => h) (Or.inl ⟨by rfl, ?_⟩) hHeld ?_
  · intro w' hSw; go_simp
  try simp only [Act.put, List.getElem_toArray, List.getElem_cons_succ, List.getElem_cons_zero, List.setIfInBounds_toArray, List.set_cons_zero, List.set_cons_succ]
  refine wpAnyH_take (i := 2) (v := .pointer (some ⟨pb, 0, none⟩)) rfl (by kernel_rfl) (by kernel_rfl) (by kernel_rfl) (fun _ _ _ h => h) (Or.inl ⟨by rfl, ?_⟩) hHeld ?_
  · intro w' hSw; go_simp
  try simp only [Act.put, List.getElem_toArray, List.getElem_cons_succ, List.getElem_cons_zero, List.setIfInBounds_toArray, List.set_cons_zero, List.set_cons_succ]
  refine wpAnyH_take (i := 3) (v := .pointer (some ⟨db, 0, none⟩)) rfl (by kernel_rfl) (by kernel_rfl) (by kernel_rfl) (fun _ _ _ h => h) (Or.inl ⟨by rfl, ?_⟩) hHeld ?_
  · intro w' hSw; have kx := (World.cell?_of_block (hSw.block _ qpl )).trans p0; go_simp
  try simp only [Act.put, List.getElem_toArray, List.getElem_cons_succ, List.getElem_cons_zero, List.setIfInBounds_toArray, List.set_cons_zero, List.set_cons_succ]
  refine wpAnyH_take (i := 4) (v := .pointer (some ⟨w.heap.size, 1, none⟩)) rfl (by kernel_rfl) (by kernel_rfl) (by kernel_rfl) (fun _ _ _ h => h) (Or.inl ⟨by rfl, ?_⟩) hHeld ?_
  · intro w' hSw; go_simp
  try simp only [Act.put, List.getElem_toArray, List.getElem_cons_succ, List.getElem_cons_zero, List.setIfInBounds_toArray, List.set_cons_zero, List.set_cons_succ]
  refine wpAnyH_take (i := 5) (v := .int .i64 i) rfl (by kernel_rfl) (by kernel_rfl) (by kernel_rfl) (fun _ _ _ h => h) (Or.inl ⟨by rfl, ?_⟩) hHeld ?_
  · intro w' hSw; have kx := (World.cell?_of_block (hSw.block _ q8a )).trans x1; go_simp
  try simp only [Act.put, List.getElem_toArray, List.getElem_cons_succ, List.getElem_cons_zero, List.setIfInBounds_toArray, List.set_cons_zero, List.set_cons_succ]
  refine wpAnyH_ready (rs := [6]) (by kernel_rfl) (by simp) ?_
  refine allCall (f := 25) (args := #[.pointer (some ⟨db, 0, none⟩), .int .i64 i]) rfl (by kernel_rfl) (by kernel_rfl) ?_ AllReadyH.nil
  refine Safe_one T wa.heap.size db d i wa.drew (Nat.le_refl _) (HD.out.keep (fun _ _ _ => rfl) (fun _ e => e)) _ (fun w1 pr cr hB ho => ?_)
  have hB1' : Below wa.heap.size wa w1 := hHeld.trans hB
  refine ⟨_, rfl, hB1', ?_⟩
  clear hHeld
  have hHeld := hB1'
  try simp only [Act.put, List.getElem_toArray, List.getElem_cons_succ, List.getElem_cons_zero, List.setIfInBounds_toArray, List.set_cons_zero, List.set_cons_succ]
  refine wpAnyH_take (i := 7) (v := .tuple #[.slice pr (d.safeV i).length cr, .int .i64 (safeE d.safe.length i)]) rfl (by kernel_rfl) (by kernel_rfl) (by kernel_rfl) (fun _ _ _ h => h) (Or.inl ⟨by rfl, ?_⟩) hHeld ?_
  · intro w' hSw; go_simp
  try simp only [Act.put, List.getElem_toArray, List.getElem_cons_succ, List.getElem_cons_zero, List.setIfInBounds_toArray, List.set_cons_zero, List.set_cons_succ]
  refine wpAnyH_take (i := 8) (v := .slice pr (d.safeV i).length cr) rfl (by kernel_rfl) (by kernel_rfl) (by kernel_rfl) (fun _ _ _ h => h) (Or.inl ⟨by rfl, ?_⟩) hHeld ?_
  · intro w' hSw; go_simp
  try simp only [Act.put, List.getElem_toArray, List.getElem_cons_succ, List.getElem_cons_zero, List.setIfInBounds_toArray, List.set_cons_zero, List.set_cons_succ]
  refine wpAnyH_take (i := 9) (v := .int .i64 (safeE d.safe.length i)) rfl (by kernel_rfl) (by kernel_rfl) (by kernel_rfl) (fun _ _ _ h => h) (Or.inl ⟨by rfl, ?_⟩) hHeld ?_
  · intro w' hSw; go_simp
  try simp only [Act.put, List.getElem_toArray, List.getElem_cons_succ, List.getElem_cons_zero, List.setIfInBounds_toArray, List.set_cons_zero, List.set_cons_succ]
  refine wpAnyH_take (i := 10) (v := .slice pr (d.safeV i).length cr) rfl (by kernel_rfl) (by kernel_rfl) (by kernel_rfl) (fun _ _ _ h => h) (Or.inl ⟨by rfl, ?_⟩) hHeld ?_
  · intro w' hSw; go_simp
  try simp only [Act.put, List.getElem_toArray, List.getElem_cons_succ, List.getElem_cons_zero, List.setIfInBounds_toArray, List.set_cons_zero, List.set_cons_succ]
  refine wpAnyH_take (i := 11) (v := .int .i64 (safeE d.safe.length i)) rfl (by kernel_rfl) (by kernel_rfl) (by kernel_rfl) (fun _ _ _ h => h) (Or.inl ⟨by rfl, ?_⟩) hHeld ?_
  · intro w' hSw; go_simp
  try simp only [Act.put, List.getElem_toArray, List.getElem_cons_succ, List.getElem_cons_zero, List.setIfInBounds_toArray, List.set_cons_zero, List.set_cons_succ]
  refine wpAnyH_done (by kernel_rfl) ?_ _
  clear hHeld
  have HB1 := Lib.hid hB1'
  have Hs1 := Lib.hid ho
  clear hB1' hB ho
  have hz1 := HB1.out.size
  obtain ⟨p10, p11⟩ := H.out.cells (w' := w1) ((HB1.out.block pb qpl).trans (HBa.out.block pb hpl))
  have H81 := Lib.hid (H8a.out.below HB1.out q8a)
  have q81 : w.heap.size < w1.heap.size := by omega
  have qpl1 : pb < w1.heap.size := by omega
  have HU1 := Lib.hid (HU.out.below HB1.out)
  obtain ⟨y0, y1, y2, y3, y4, y5, y6, y7⟩ := H81.out.cells.c8
  clear x0 x1 x2 x3 x4 x5 x6 x7
  go_wp2_with fail
  refine wp_region_held_drew (S := fun w' => Below w1.heap.size w1 w') (by kernel_rfl) (Below.drew (Below.refl _ _)) (fun hHeld => ?_)
  refine wpAnyH_take (i := 0) (v := .pointer (some ⟨pb, 0, none⟩)) rfl (by kernel_rfl) (by kernel_rfl) (by kernel_rfl) (fun _ _ _ h => h) (Or.inl ⟨by rfl, ?_⟩) hHeld ?_
  · intro w' hSw; go_simp
  try simp only [Act.put, List.getElem_toArray, List.getElem_cons_succ, List.getElem_cons_zero, List.setIfInBounds_toArray, List.set_cons_zero, List.set_cons_succ]
  refine wpAnyH_take (i := 1) (v := .pointer (some ⟨pb, 0, none⟩)) rfl (by kernel_rfl) (by kernel_rfl) (by kernel_rfl) (fun _ _ _ h => h) (Or.inl ⟨by rfl, ?_⟩) hHeld ?_
  · intro w' hSw; go_simp
  try simp only [Act.put, List.getElem_toArray, List.getElem_cons_succ, List.getElem_cons_zero, List.setIfInBounds_toArray, List.set_cons_zero, List.set_cons_succ]
  refine wpAnyH_take (i := 2) (v := .pointer (some ⟨pb, 1, none⟩)) rfl (by kernel_rfl) (by kernel_rfl) (by kernel_rfl) (fun _ _ _ h => h) (Or.inl ⟨by rfl, ?_⟩) hHeld ?_
  · intro w' hSw; go_simp
  try simp only [Act.put, List.getElem_toArray, List.getElem_cons_succ, List.getElem_cons_zero, List.setIfInBounds_toArray, List.set_cons_zero, List.set_cons_succ]
  refine wpAnyH_take (i := 3) (v := .pointer (some ⟨rb, 0, none⟩)) rfl (by kernel_rfl) (by kernel_rfl) (by kernel_rfl) (fun _ _ _ h => h) (Or.inl ⟨by rfl, ?_⟩) hHeld ?_
  · intro w' hSw; have kx := (World.cell?_of_block (hSw.block _ qpl1 )).trans p11; go_simp
  try simp only [Act.put, List.getElem_toArray, List.getElem_cons_succ, List.getElem_cons_zero, List.setIfInBounds_toArray, List.set_cons_zero, List.set_cons_succ]
  refine wpAnyH_take (i := 4) (v := .pointer (some ⟨w.heap.size, 1, none⟩)) rfl (by kernel_rfl) (by kernel_rfl) (by kernel_rfl) (fun _ _ _ h => h) (Or.inl ⟨by rfl, ?_⟩) hHeld ?_
  · intro w' hSw; go_simp
  try simp only [Act.put, List.getElem_toArray, List.getElem_cons_succ, List.getElem_cons_zero, List.setIfInBounds_toArray, List.set_cons_zero, List.set_cons_succ]
  refine wpAnyH_take (i := 5) (v := .int .i64 i) rfl (by kernel_rfl) (by kernel_rfl) (by kernel_rfl) (fun _ _ _ h => h) (Or.inl ⟨by rfl, ?_⟩) hHeld ?_
  · intro w' hSw; have kx := (World.cell?_of_block (hSw.block _ q81 )).trans y1; go_simp
  try simp only [Act.put, List.getElem_toArray, List.getElem_cons_succ, List.getElem_cons_zero, List.setIfInBounds_toArray, List.set_cons_zero, List.set_cons_succ]
  refine wpAnyH_ready (rs := [6]) (by kernel_rfl) (by simp) ?_
  refine allCall (f := 43) (args := #[.pointer (some ⟨rb, 0, none⟩), .int .i64 i]) rfl (by kernel_rfl) (by kernel_rfl) ?_ AllReadyH.nil
  refine SafeR_one U rb d i w1.drew (HU1.out.keep (fun _ _ _ => rfl) (fun _ e => e)) _ ?_
  have hB2' : Below w1.heap.size w1 w1.drew := hHeld
  refine ⟨_, rfl, hB2', ?_⟩
  clear hHeld
  have hHeld := hB2'
  try simp only [Act.put, List.getElem_toArray, List.getElem_cons_succ, List.getElem_cons_zero, List.setIfInBounds_toArray, List.set_cons_zero, List.set_cons_succ]
  refine wpAnyH_take (i := 7) (v := .tuple #[.string ⟨(d.safeV i).toArray⟩, .int .i64 (safeE d.safe.length i)]) rfl (by kernel_rfl) (by kernel_rfl) (by kernel_rfl) (fun _ _ _ h => h) (Or.inl ⟨by rfl, ?_⟩) hHeld ?_
  · intro w' hSw; go_simp
  try simp only [Act.put, List.getElem_toArray, List.getElem_cons_succ, List.getElem_cons_zero, List.setIfInBounds_toArray, List.set_cons_zero, List.set_cons_succ]
  refine wpAnyH_take (i := 8) (v := .string ⟨(d.safeV i).toArray⟩) rfl (by kernel_rfl) (by kernel_rfl) (by kernel_rfl) (fun _ _ _ h => h) (Or.inl ⟨by rfl, ?_⟩) hHeld ?_
  · intro w' hSw; go_simp
  try simp only [Act.put, List.getElem_toArray, List.getElem_cons_succ, List.getElem_cons_zero, List.setIfInBounds_toArray, List.set_cons_zero, List.set_cons_succ]
  refine wpAnyH_take (i := 9) (v := .int .i64 (safeE d.safe.length i)) rfl (by kernel_rfl) (by kernel_rfl) (by kernel_rfl) (fun _ _ _ h => h) (Or.inl ⟨by rfl, ?_⟩) hHeld ?_
  · intro w' hSw; go_simp
  try simp only [Act.put, List.getElem_toArray, List.getElem_cons_succ, List.getElem_cons_zero, List.setIfInBounds_toArray, List.set_cons_zero, List.set_cons_succ]
  refine wpAnyH_take (i := 10) (v := .string ⟨(d.safeV i).toArray⟩) rfl (by kernel_rfl) (by kernel_rfl) (by kernel_rfl) (fun _ _ _ h => h) (Or.inl ⟨by rfl, ?_⟩) hHeld ?_
  · intro w' hSw; go_simp
  try simp only [Act.put, List.getElem_toArray, List.getElem_cons_succ, List.getElem_cons_zero, List.setIfInBounds_toArray, List.set_cons_zero, List.set_cons_succ]
  refine wpAnyH_take (i := 11) (v := .int .i64 (safeE d.safe.length i)) rfl (by kernel_rfl) (by kernel_rfl) (by kernel_rfl) (fun _ _ _ h => h) (Or.inl ⟨by rfl, ?_⟩) hHeld ?_
  · intro w' hSw; go_simp
  try simp only [Act.put, List.getElem_toArray, List.getElem_cons_succ, List.getElem_cons_zero, List.setIfInBounds_toArray, List.set_cons_zero, List.set_cons_succ]
  refine wpAnyH_done (by kernel_rfl) ?_ _
  clear hHeld
  have HB2 := Lib.hid hB2'
  clear hB2'
  obtain ⟨w2, ew2⟩ : ∃ x, x = w1.drew := ⟨_, rfl⟩
  rw [← ew2] at HB2
  rw [← ew2]
  clear ew2
  have hz2 := HB2.out.size
  have Hs2 := Lib.hid (Own.kept Hs1.out HB2.out)
  clear y0 y1 y2 y3 y4 y5 y6 y7 p0 p1 p10 p11
  generalize d.safeV i = s at *
  generalize safeE d.safe.length i = ee at *
  have hcv2 := str (OwnB.bytes Hs2.out)
  have hsl := (OwnB.bytes Hs2.out).len
  go_wp2_with fail
  go_loopw [228] (fun tk wr => ∃ k : Nat, k ≤ s.length ∧ tk = .int .i64 (k : Int) ∧ Only (fun q => Value.ownBlock (.slice pr s.length cr) = some q) w2 wr ∧ Some8 wa.heap.size s.length (.slice pr s.length cr) wr) (fun tk _ => s.length - (intOf tk).toNat)
  case atStart => exact ⟨0, Nat.zero_le _, rfl, Only.refl _ _, ⟨_, rfl, Hs2.out⟩⟩
  case round =>
    obtain ⟨k, hk1, rfl, hOk, h8⟩ := hrel
    have HOk := Lib.hid hOk
    have k0 : (0 : Int) ≤ (k : Int) := by omega
    clear hOk
    by_cases hkl : k < s.length
    · have kl : (k : Int) < (s.length : Int) := by omega
      have k9 : (k : Int) + 1 ≤ 9223372036854775807 := by omega
      obtain ⟨g1, x, hg, -, c0, f0, h8'⟩ := h8.at k hkl
      subst hg
      rw [← add8m x] at h8'
      have H8 := Lib.hid h8'
      have hx8 := add8 x
      clear h8 h8'
      go_wp2_with fail
      go_roundw
      case rel => exact ⟨k + 1, by omega, by go_num, HOk.out.trans (Only.setCell _ (p := ⟨g1, k, none⟩) (by rfl) _), H8.out⟩
      case measure => first | (simp [intOf]; done) | (simp [intOf]; omega)
    · clear h8
      have hown := Own.lt Hs2.out
      have hB3 : Below w.heap.size w2 wr := HOk.out.below (by omega) (fun q e => by have := (hown q e).1; omega)
      have hD3 := ((HD.out.below HB1.out).below HB2.out).only HOk.out (fun k e _ e2 => by
        have h1 := hown k e2
        have := HTl.out k e
        omega)
      have hU3 := (HU1.out.below HB2.out).only HOk.out (fun k e _ e2 => by
        have h1 := hown k e2
        have := HUl.out k e
        omega)
      have hr := HR.out wr (H.out.on HBa.out (Below.only HB1.out) (Below.only HB2.out) hB3) ⟨_, _, _, _, H.out.turn HBa.out (Below.only HB1.out) (Below.only HB2.out) hB3 (d' := Dk.act d ⟨6, i, n, data, raw, keep, tn, at'⟩) (by rw [act6]; exact hD3) (by rw [act6]; exact hU3) (fun _ e => .inl e) (fun _ e => .inl e) (HOk.out.block pb (by omega) (fun e => by have := (hown pb e).1; omega))⟩
      clear hB3 hD3 hU3 hown
      go_wp2_with fail
      first | exact hr | exact fin hr rfl
end Go.Proofs.Ytfmpafheodpfoaa
