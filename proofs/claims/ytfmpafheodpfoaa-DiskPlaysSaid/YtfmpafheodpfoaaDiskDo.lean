/- A call of a pair: the walk, for each kind of call. (Printed by diskpl.py.) -/
import Derived.Test.YtfmpafheodpfoaaDiskDr
namespace Go.Proofs.Ytfmpafheodpfoaa
open Go.RowKit
attribute [local go_sem ↓] Go.wp_at_zero Go.wp_at_succ
set_option linter.unusedVariables false
set_option linter.unusedSimpArgs false

set_option maxRecDepth 100000 in
set_option maxHeartbeats 8000000 in
theorem do0_any (S : Nat → Prop) (lo hi pb m : Nat) (d : Dk) (x : DOp) (cs : List Value) (w : World) (h : PrAt w S pb d) (hb : Bnd d m) (hm : m < 100000) (hx : opE lo hi w cs x) (hhi : hi ≤ w.heap.size) (hap : ∀ k, S k → k < lo ∨ hi ≤ k) (hl : x.data.length ≤ 300) (hk : x.kind = 0)
    (R : Ending → World → Prop) (hR : ∀ w', Only S w w' → PrAt w' (Wid S w.heap.size w'.heap.size) pb (d.act x) → R (.returned (.bool true)) w') :
    Calls Try.prog 22 #[.pointer (some ⟨pb, 0, none⟩), .agg cs.toArray] w R := by
  obtain ⟨T, U, db, rb, h⟩ := h
  obtain ⟨kind, i, n, data, raw, keep, tn, at'⟩ := x
  obtain ⟨dv, kv, rfl, hdv, hkv⟩ := hx
  simp only at hk hdv hkv hl
  subst hk
  obtain ⟨ad, cd, rfl, -, -, -, -⟩ := hdv.form
  obtain ⟨ak, ck, rfl, -, -, -, -⟩ := hkv.form
  have H := Lib.hid h
  have HR := Lib.hid hR
  have Hb := Lib.hid hb
  have Hap := Lib.hid hap
  have Hlt := Lib.hid h.lt
  have hpl := h.pd.lt
  have hal := alloc_below w (.cells #[.int .i64 0, .int .i64 i, .int .i64 n, .slice ad data.length cd, .bool raw, .slice ak keep.length ck, .int .i64 tn, .int .i64 at'] 36)
  have hb8 := Blk.new w [.int .i64 0, .int .i64 i, .int .i64 n, .slice ad data.length cd, .bool raw, .slice ak keep.length ck, .int .i64 tn, .int .i64 at'] 36 rfl
  have Hdv := Lib.hid (Sl.below hdv (flat_loc _) hal hhi)
  have Hkv := Lib.hid (Sl.below hkv (flat_loc _) hal hhi)
  clear h hR hb hap hdv hkv
  go_enter Try.func22, Try.ntmps22
  go_upto_region 1 with fail
  generalize w.alloc (.cells #[.int .i64 0, .int .i64 i, .int .i64 n, .slice ad data.length cd, .bool raw, .slice ak keep.length ck, .int .i64 tn, .int .i64 at'] 36) = wb at *
  have hzb := hal.size
  have hhb : hi ≤ wb.heap.size := Nat.le_trans hhi hzb
  have q8 := hb8.lt
  obtain ⟨x0, x1, x2, x3, x4, x5, x6, x7⟩ := hb8.cells.c8
  have HBb := Lib.hid hal
  have H8 := Lib.hid hb8
  clear hal hb8
  go_wp2_with fail
  refine Full_any lo hi _ data wb Hdv.out hhb _ (fun wf hBf hbf => ?_)
  have hzf := hBf.size
  have HBf := Lib.hid (HBb.out.trans (hBf.mono hzb))
  have H8f := Lib.hid (H8.out.below hBf q8)
  have Hdf := Lib.hid (Sl.below Hdv.out (flat_loc _) hBf hhb)
  have Hkf := Lib.hid (Sl.below Hkv.out (flat_loc _) hBf hhb)
  have hhf : hi ≤ wf.heap.size := Nat.le_trans hhb hzf
  have Hof := Lib.hid (full_own hbf (Nat.le_refl _))
  have q8f : w.heap.size < wf.heap.size := by omega
  clear x0 x1 x2 x3 x4 x5 x6 x7 hBf hbf Hdv Hkv H8
  obtain ⟨x0, x1, x2, x3, x4, x5, x6, x7⟩ := H8f.out.cells.c8
  go_upto_if 29 with fail
  go_cut [5] from 30 to 33 (fun t5 wx => ∃ p c, t5 = .slice p (if raw then data else full data).length c ∧ OwnB wb.heap.size wx t5 (if raw then data else full data) ∧ Below wf.heap.size wf wx)
  case first =>
    as_aux_lemma =>
    cases raw with
    | false =>
      go_wp2_with fail
      go_meet
      exact ⟨_, _, by rw [if_neg (by decide), full_length], by rw [if_neg (by decide)]; exact Hof.out, Below.refl _ _⟩
    | true =>
      obtain ⟨pk, ck2, wcc, hrunk, hkc, hBc⟩ := copyD Hdf.out hhf (by omega) (n := wf.heap.size) rfl
      go_wp2_with (at_builtin; refine AtApp.of ?_)
      refine AtApp.go hrunk rfl rfl rfl rfl ?_
      clear hrunk
      go_wp2_with fail
      go_meet
      exact ⟨_, _, by first | rw [if_pos rfl] | rw [if_pos trivial], ifp (Own.mono0 hkc hzf), hBc⟩
  case rest =>
  obtain ⟨pd, cd2, rfl, hoc, hBc⟩ := hcut
  obtain ⟨wa, ewa⟩ : ∃ x, x = wc := ⟨_, rfl⟩
  subst ewa
  have hza := hBc.size
  have HBa := Lib.hid (HBf.out.trans (hBc.mono (by omega)))
  have H8a := Lib.hid (H8f.out.below hBc q8f)
  have Hda := Lib.hid (show OwnB wb.heap.size wa (.slice pd (if raw then data else full data).length cd2) (if raw then data else full data) from hoc)
  have Hka := Lib.hid (Sl.below Hkf.out (flat_loc _) hBc hhf)
  have hha : hi ≤ wa.heap.size := Nat.le_trans hhf hza
  have q8a : w.heap.size < wa.heap.size := by omega
  have qwb : w.heap.size < wb.heap.size := q8
  have Hby : Hid (DOp.bytes ⟨0, i, n, data, raw, keep, tn, at'⟩ = if raw then data else full data) := Lib.hid rfl
  have hdl : (if raw then data else full data).length ≤ 300 := by
    cases raw
    · rw [if_neg (by decide), full_length]; omega
    · rw [if_pos rfl]; exact hl
  have hcv := fun q => str (Sl.below Hda.out.bytes (flat_loc _) (drewN (Below.refl wa.heap.size wa) q) (Nat.le_refl _))
  have hcv0 := str Hda.out.bytes
  clear x0 x1 x2 x3 x4 x5 x6 x7 hoc hBc HBf H8f Hdf Hkf Hof
  generalize (if raw then data else full data) = b at *
  obtain ⟨x0, x1, x2, x3, x4, x5, x6, x7⟩ := H8a.out.cells.c8
  go_upto_region 7 with fail
  obtain ⟨p0, p1⟩ := H.out.cells (w' := wa) (HBa.out.block pb hpl)
  have HD := Lib.hid (H.out.hd.below HBa.out)
  have HU := Lib.hid (H.out.hr.below HBa.out)
  have qpl : pb < wa.heap.size := Nat.lt_of_lt_of_le hpl HBa.out.size
  have HTl : Hid (∀ k, T k → k < wa.heap.size) := Lib.hid (fun k e => by have := Hlt.out k (H.out.t k e).1; omega)
  have HUl : Hid (∀ k, U k → k < wa.heap.size) := Lib.hid (fun k e => by have := Hlt.out k (H.out.u k e).1; omega)
  go_wp2_with fail
  refine wp_region_held_drew (S := fun w' => Only T wa w') (by kernel_rfl) (Only.drew _) (fun hHeld => ?_)
  refine wpAnyH_take (i := 0) (v := .pointer (some ⟨pb, 0, none⟩)) rfl (by kernel_rfl) (by kernel_rfl) (by kernel_rfl) (fun _ _ _ h => h) (Or.inl ⟨by rfl, ?_⟩) hHeld ?_
  · intro w' hSw; go_simp
  try simp only [Act.put, List.getElem_toArray, List.getElem_cons_succ, List.getElem_cons_zero, List.setIfInBounds_toArray, List.set_cons_zero, List.set_cons_succ]
  refine wpAnyH_take (i := 1) (v := .pointer (some ⟨pb, 0, none⟩)) rfl (by kernel_rfl) (by kernel_rfl) (by kernel_rfl) (fun _ _ _ h => h) (Or.inl ⟨by rfl, ?_⟩) hHeld ?_
  · intro w' hSw; go_simp
  try simp only [Act.put, List.getElem_toArray, List.getElem_cons_succ, List.getElem_cons_zero, List.setIfInBounds_toArray, List.set_cons_zero, List.set_cons_succ]
  refine wpAnyH_take (i := 2) (v := .pointer (some ⟨pb, 0, none⟩)) rfl (by kernel_rfl) (by kernel_rfl) (by kernel_rfl) (fun _ _ _ h => h) (Or.inl ⟨by rfl, ?_⟩) hHeld ?_
  · intro w' hSw; go_simp
  try simp only [Act.put, List.getElem_toArray, List.getElem_cons_succ, List.getElem_cons_zero, List.setIfInBounds_toArray, List.set_cons_zero, List.set_cons_succ]
  refine wpAnyH_take (i := 3) (v := .pointer (some ⟨db, 0, none⟩)) rfl (by kernel_rfl) (by kernel_rfl) (by kernel_rfl) (fun _ _ _ h => h) (Or.inl ⟨by rfl, ?_⟩) hHeld ?_
  · intro w' hSw; have kx := (World.cell?_of_block (hSw.block _ qpl (fun e => (H.out.t pb e).2.1 rfl))).trans p0; go_simp
  try simp only [Act.put, List.getElem_toArray, List.getElem_cons_succ, List.getElem_cons_zero, List.setIfInBounds_toArray, List.set_cons_zero, List.set_cons_succ]
  refine wpAnyH_take (i := 4) (v := .pointer (some ⟨w.heap.size, 1, none⟩)) rfl (by kernel_rfl) (by kernel_rfl) (by kernel_rfl) (fun _ _ _ h => h) (Or.inl ⟨by rfl, ?_⟩) hHeld ?_
  · intro w' hSw; go_simp
  try simp only [Act.put, List.getElem_toArray, List.getElem_cons_succ, List.getElem_cons_zero, List.setIfInBounds_toArray, List.set_cons_zero, List.set_cons_succ]
  refine wpAnyH_take (i := 5) (v := .int .i64 i) rfl (by kernel_rfl) (by kernel_rfl) (by kernel_rfl) (fun _ _ _ h => h) (Or.inl ⟨by rfl, ?_⟩) hHeld ?_
  · intro w' hSw; have kx := (World.cell?_of_block (hSw.block _ q8a (fun e => absurd (Hlt.out _ (H.out.t _ e).1) (Nat.lt_irrefl _)))).trans x1; go_simp
  try simp only [Act.put, List.getElem_toArray, List.getElem_cons_succ, List.getElem_cons_zero, List.setIfInBounds_toArray, List.set_cons_zero, List.set_cons_succ]
  refine wpAnyH_take (i := 6) (v := .slice pd b.length cd2) rfl (by kernel_rfl) (by kernel_rfl) (by kernel_rfl) (fun _ _ _ h => h) (Or.inl ⟨by rfl, ?_⟩) hHeld ?_
  · intro w' hSw; go_simp
  try simp only [Act.put, List.getElem_toArray, List.getElem_cons_succ, List.getElem_cons_zero, List.setIfInBounds_toArray, List.set_cons_zero, List.set_cons_succ]
  refine wpAnyH_ready (rs := [7]) (by kernel_rfl) (by simp) ?_
  refine allCall (f := 13) (args := #[.pointer (some ⟨db, 0, none⟩), .int .i64 i, .slice pd b.length cd2]) rfl (by kernel_rfl) (by kernel_rfl) ?_ AllReadyH.nil
  refine Write_one T wb.heap.size wa.heap.size db m d i _ b wa.drew (HD.out.keep (fun _ _ _ => rfl) (fun _ e => e)) (Hda.out.bytes.agree (flat_loc _) (fun _ _ _ => rfl)) (Nat.le_refl _) (fun k e => .inl (by have := Hlt.out k (H.out.t k e).1; omega)) Hb.out hm _ (fun w1 hO hD1 => ?_)
  have hO1' : Only T wa w1 := hHeld.trans hO
  refine ⟨_, rfl, hO1', ?_⟩
  clear hHeld
  have hHeld := hO1'
  try simp only [Act.put, List.getElem_toArray, List.getElem_cons_succ, List.getElem_cons_zero, List.setIfInBounds_toArray, List.set_cons_zero, List.set_cons_succ]
  refine wpAnyH_take (i := 8) (v := .int .i64 (d.putE i b)) rfl (by kernel_rfl) (by kernel_rfl) (by kernel_rfl) (fun _ _ _ h => h) (Or.inl ⟨by rfl, ?_⟩) hHeld ?_
  · intro w' hSw; go_simp
  try simp only [Act.put, List.getElem_toArray, List.getElem_cons_succ, List.getElem_cons_zero, List.setIfInBounds_toArray, List.set_cons_zero, List.set_cons_succ]
  refine wpAnyH_done (by kernel_rfl) ?_ _
  clear hHeld
  have HO1 := Lib.hid hO1'
  have HD1 := Lib.hid hD1
  clear hO1' hO hD1
  have q1 := H.out.cells (w' := w1) ((HO1.out.block pb qpl (fun e => (H.out.t pb e).2.1 rfl)).trans (HBa.out.block pb hpl))
  obtain ⟨p10, p11⟩ := q1
  have H81 := Lib.hid (HO1.out.blk H8a.out (fun e => absurd (Hlt.out _ (H.out.t _ e).1) (Nat.lt_irrefl _)))
  have hz1 := HO1.out.size
  have q81 : w.heap.size < w1.heap.size := by omega
  have qpl1 : pb < w1.heap.size := by omega
  have HU1 := Lib.hid (HU.out.only HO1.out (fun k e _ => H.out.apart k e))
  obtain ⟨y0, y1, y2, y3, y4, y5, y6, y7⟩ := H81.out.cells.c8
  clear x0 x1 x2 x3 x4 x5 x6 x7
  go_wp2_with fail
  refine wp_region_held_drew (S := fun w' => Only U w1 w') (by kernel_rfl) (Only.drew _) (fun hHeld => ?_)
  refine wpAnyH_take (i := 0) (v := .int .i64 (d.putE i b)) rfl (by kernel_rfl) (by kernel_rfl) (by kernel_rfl) (fun _ _ _ h => h) (Or.inl ⟨by rfl, ?_⟩) hHeld ?_
  · intro w' hSw; go_simp
  try simp only [Act.put, List.getElem_toArray, List.getElem_cons_succ, List.getElem_cons_zero, List.setIfInBounds_toArray, List.set_cons_zero, List.set_cons_succ]
  refine wpAnyH_take (i := 1) (v := .pointer (some ⟨pb, 0, none⟩)) rfl (by kernel_rfl) (by kernel_rfl) (by kernel_rfl) (fun _ _ _ h => h) (Or.inl ⟨by rfl, ?_⟩) hHeld ?_
  · intro w' hSw; go_simp
  try simp only [Act.put, List.getElem_toArray, List.getElem_cons_succ, List.getElem_cons_zero, List.setIfInBounds_toArray, List.set_cons_zero, List.set_cons_succ]
  refine wpAnyH_take (i := 2) (v := .pointer (some ⟨pb, 0, none⟩)) rfl (by kernel_rfl) (by kernel_rfl) (by kernel_rfl) (fun _ _ _ h => h) (Or.inl ⟨by rfl, ?_⟩) hHeld ?_
  · intro w' hSw; go_simp
  try simp only [Act.put, List.getElem_toArray, List.getElem_cons_succ, List.getElem_cons_zero, List.setIfInBounds_toArray, List.set_cons_zero, List.set_cons_succ]
  refine wpAnyH_take (i := 3) (v := .pointer (some ⟨pb, 1, none⟩)) rfl (by kernel_rfl) (by kernel_rfl) (by kernel_rfl) (fun _ _ _ h => h) (Or.inl ⟨by rfl, ?_⟩) hHeld ?_
  · intro w' hSw; go_simp
  try simp only [Act.put, List.getElem_toArray, List.getElem_cons_succ, List.getElem_cons_zero, List.setIfInBounds_toArray, List.set_cons_zero, List.set_cons_succ]
  refine wpAnyH_take (i := 4) (v := .pointer (some ⟨rb, 0, none⟩)) rfl (by kernel_rfl) (by kernel_rfl) (by kernel_rfl) (fun _ _ _ h => h) (Or.inl ⟨by rfl, ?_⟩) hHeld ?_
  · intro w' hSw; have kx := (World.cell?_of_block (hSw.block _ qpl1 (fun e => (H.out.u pb e).2 rfl))).trans p11; go_simp
  try simp only [Act.put, List.getElem_toArray, List.getElem_cons_succ, List.getElem_cons_zero, List.setIfInBounds_toArray, List.set_cons_zero, List.set_cons_succ]
  refine wpAnyH_take (i := 5) (v := .pointer (some ⟨w.heap.size, 1, none⟩)) rfl (by kernel_rfl) (by kernel_rfl) (by kernel_rfl) (fun _ _ _ h => h) (Or.inl ⟨by rfl, ?_⟩) hHeld ?_
  · intro w' hSw; go_simp
  try simp only [Act.put, List.getElem_toArray, List.getElem_cons_succ, List.getElem_cons_zero, List.setIfInBounds_toArray, List.set_cons_zero, List.set_cons_succ]
  refine wpAnyH_take (i := 6) (v := .int .i64 i) rfl (by kernel_rfl) (by kernel_rfl) (by kernel_rfl) (fun _ _ _ h => h) (Or.inl ⟨by rfl, ?_⟩) hHeld ?_
  · intro w' hSw; have kx := (World.cell?_of_block (hSw.block _ q81 (fun e => absurd (Hlt.out _ (H.out.u _ e).1) (Nat.lt_irrefl _)))).trans y1; go_simp
  try simp only [Act.put, List.getElem_toArray, List.getElem_cons_succ, List.getElem_cons_zero, List.setIfInBounds_toArray, List.set_cons_zero, List.set_cons_succ]
  refine wpAnyH_take (i := 7) (v := .string ⟨b.toArray⟩) rfl (by kernel_rfl) (by kernel_rfl) (by kernel_rfl) (fun _ _ _ h => h) (Or.inl ⟨by rfl, ?_⟩) hHeld ?_
  · intro w' hSw; go_simp
  try simp only [Act.put, List.getElem_toArray, List.getElem_cons_succ, List.getElem_cons_zero, List.setIfInBounds_toArray, List.set_cons_zero, List.set_cons_succ]
  refine wpAnyH_ready (rs := [8]) (by kernel_rfl) (by simp) ?_
  refine allCall (f := 39) (args := #[.pointer (some ⟨rb, 0, none⟩), .int .i64 i, .string ⟨b.toArray⟩]) rfl (by kernel_rfl) (by kernel_rfl) ?_ AllReadyH.nil
  refine WriteR_one U rb m d i b w1.drew (HU1.out.keep (fun _ _ _ => rfl) (fun _ e => e)) (fun k e => by have := HUl.out k e; exact Nat.lt_of_lt_of_le this hz1) Hb.out hm _ (fun w2 hO hU2 => ?_)
  have hO2' : Only U w1 w2 := hHeld.trans hO
  refine ⟨_, rfl, hO2', ?_⟩
  clear hHeld
  have hHeld := hO2'
  try simp only [Act.put, List.getElem_toArray, List.getElem_cons_succ, List.getElem_cons_zero, List.setIfInBounds_toArray, List.set_cons_zero, List.set_cons_succ]
  refine wpAnyH_take (i := 9) (v := .bool true) rfl (by kernel_rfl) (by kernel_rfl) (by kernel_rfl) (fun _ _ _ h => h) (Or.inl ⟨by rfl, ?_⟩) hHeld ?_
  · intro w' hSw; go_simp
  try simp only [Act.put, List.getElem_toArray, List.getElem_cons_succ, List.getElem_cons_zero, List.setIfInBounds_toArray, List.set_cons_zero, List.set_cons_succ]
  refine wpAnyH_take (i := 10) (v := .bool true) rfl (by kernel_rfl) (by kernel_rfl) (by kernel_rfl) (fun _ _ _ h => h) (Or.inl ⟨by rfl, ?_⟩) hHeld ?_
  · intro w' hSw; go_simp
  try simp only [Act.put, List.getElem_toArray, List.getElem_cons_succ, List.getElem_cons_zero, List.setIfInBounds_toArray, List.set_cons_zero, List.set_cons_succ]
  refine wpAnyH_done (by kernel_rfl) ?_ _
  clear hHeld
  have HO2 := Lib.hid hO2'
  have HU2 := Lib.hid hU2
  clear hO2' hO hU2
  have hz2 := HO2.out.size
  have zd : wa.drew.heap.size = wa.heap.size := rfl
  have zd1 : w1.drew.heap.size = w1.heap.size := rfl
  have hda2 : OwnB wb.heap.size w2 (.slice pd b.length cd2) b := Own.same Hda.out (fun g e => by
    have h1 := Own.lt Hda.out g e
    exact (HO2.out.block g (by omega) (fun e2 => by have := Hlt.out g (H.out.u g e2).1; omega)).trans (HO1.out.block g h1.2 (fun e2 => by have := Hlt.out g (H.out.t g e2).1; omega)))
  have Hda2 := Lib.hid hda2
  clear hda2
  go_wp2_with fail
  go_loopw [60] (fun tk wr => ∃ k : Nat, k ≤ b.length ∧ tk = .int .i64 (k : Int) ∧ Only (fun q => Value.ownBlock (.slice pd b.length cd2) = some q) w2 wr ∧ Some8 wb.heap.size b.length (.slice pd b.length cd2) wr) (fun tk _ => b.length - (intOf tk).toNat)
  case atStart => exact ⟨0, Nat.zero_le _, rfl, Only.refl _ _, ⟨_, rfl, Hda2.out⟩⟩
  case round =>
    obtain ⟨k, hk1, rfl, hOk, h8⟩ := hrel
    have HOk := Lib.hid hOk
    have k0 : (0 : Int) ≤ (k : Int) := by omega
    clear hOk
    by_cases hkl : k < b.length
    · have kl : (k : Int) < (b.length : Int) := by omega
      have k9 : (k : Int) + 1 ≤ 9223372036854775807 := by omega
      obtain ⟨g1, x, hg, -, c0, f0, h8'⟩ := h8.at k hkl
      subst hg
      rw [← add8m x] at h8'
      have H8 := Lib.hid h8'
      have hx8 := add8 x
      clear h8 h8'
      go_wp2_with fail
      go_roundw
      case rel => exact ⟨k + 1, by omega, by go_num, HOk.out.trans (Only.setCell _ (p := ⟨g1, k, none⟩) (by rfl) _), H8.out⟩
      case measure => first | (simp [intOf]; done) | (simp [intOf]; omega)
    · clear h8
      have hown := Own.lt Hda.out
      have hB3 : Below w.heap.size w2 wr := HOk.out.below (by omega) (fun q e => by have := (hown q e).1; omega)
      have hD3 := (HD1.out.only HO2.out (fun k e _ e2 => e.elim (fun e => H.out.apart k e2 e) (fun e => absurd (Hlt.out k (H.out.u k e2).1) (by omega)))).only HOk.out (fun k e _ e2 => by
        have h1 := hown k e2
        rcases e with e | e
        · have := Hlt.out k (H.out.t k e).1; omega
        · omega)
      have hU3 := HU2.out.only HOk.out (fun k e _ e2 => by
        have h1 := hown k e2
        rcases e with e | e
        · have := Hlt.out k (H.out.u k e).1; omega
        · omega)
      have hr := HR.out wr (H.out.on HBa.out HO1.out HO2.out hB3) ⟨_, _, _, _, H.out.turn HBa.out HO1.out HO2.out hB3 (d' := Dk.act d ⟨0, i, n, data, raw, keep, tn, at'⟩) (by rw [act0, Hby.out]; exact hD3) (by rw [act0, Hby.out]; exact hU3) (fun _ e => e) (fun _ e => e) (HOk.out.block pb (by omega) (fun e => by have := (hown pb e).1; omega))⟩
      clear hB3 hD3 hU3 hown
      go_wp2_with fail
      first | exact hr | exact fin hr rfl
set_option maxRecDepth 100000 in
set_option maxHeartbeats 8000000 in
theorem do1_any (S : Nat → Prop) (lo hi pb m : Nat) (d : Dk) (x : DOp) (cs : List Value) (w : World) (h : PrAt w S pb d) (hb : Bnd d m) (hm : m < 100000) (hx : opE lo hi w cs x) (hhi : hi ≤ w.heap.size) (hap : ∀ k, S k → k < lo ∨ hi ≤ k) (hl : x.data.length ≤ 300) (hk : x.kind = 1)
    (R : Ending → World → Prop) (hR : ∀ w', Only S w w' → PrAt w' (Wid S w.heap.size w'.heap.size) pb (d.act x) → R (.returned (.bool true)) w') :
    Calls Try.prog 22 #[.pointer (some ⟨pb, 0, none⟩), .agg cs.toArray] w R := by
  obtain ⟨T, U, db, rb, h⟩ := h
  obtain ⟨kind, i, n, data, raw, keep, tn, at'⟩ := x
  obtain ⟨dv, kv, rfl, hdv, hkv⟩ := hx
  simp only at hk hdv hkv hl
  subst hk
  obtain ⟨ad, cd, rfl, -, -, -, -⟩ := hdv.form
  obtain ⟨ak, ck, rfl, -, -, -, -⟩ := hkv.form
  have H := Lib.hid h
  have HR := Lib.hid hR
  have Hb := Lib.hid hb
  have Hap := Lib.hid hap
  have Hlt := Lib.hid h.lt
  have hpl := h.pd.lt
  have hal := alloc_below w (.cells #[.int .i64 1, .int .i64 i, .int .i64 n, .slice ad data.length cd, .bool raw, .slice ak keep.length ck, .int .i64 tn, .int .i64 at'] 36)
  have hb8 := Blk.new w [.int .i64 1, .int .i64 i, .int .i64 n, .slice ad data.length cd, .bool raw, .slice ak keep.length ck, .int .i64 tn, .int .i64 at'] 36 rfl
  have Hdv := Lib.hid (Sl.below hdv (flat_loc _) hal hhi)
  have Hkv := Lib.hid (Sl.below hkv (flat_loc _) hal hhi)
  clear h hR hb hap hdv hkv
  go_enter Try.func22, Try.ntmps22
  go_upto_region 1 with fail
  generalize w.alloc (.cells #[.int .i64 1, .int .i64 i, .int .i64 n, .slice ad data.length cd, .bool raw, .slice ak keep.length ck, .int .i64 tn, .int .i64 at'] 36) = wb at *
  have hzb := hal.size
  have hhb : hi ≤ wb.heap.size := Nat.le_trans hhi hzb
  have q8 := hb8.lt
  obtain ⟨x0, x1, x2, x3, x4, x5, x6, x7⟩ := hb8.cells.c8
  have HBb := Lib.hid hal
  have H8 := Lib.hid hb8
  clear hal hb8
  go_wp2_with fail
  refine Full_any lo hi _ data wb Hdv.out hhb _ (fun wf hBf hbf => ?_)
  have hzf := hBf.size
  have HBf := Lib.hid (HBb.out.trans (hBf.mono hzb))
  have H8f := Lib.hid (H8.out.below hBf q8)
  have Hdf := Lib.hid (Sl.below Hdv.out (flat_loc _) hBf hhb)
  have Hkf := Lib.hid (Sl.below Hkv.out (flat_loc _) hBf hhb)
  have hhf : hi ≤ wf.heap.size := Nat.le_trans hhb hzf
  have Hof := Lib.hid (full_own hbf (Nat.le_refl _))
  have q8f : w.heap.size < wf.heap.size := by omega
  clear x0 x1 x2 x3 x4 x5 x6 x7 hBf hbf Hdv Hkv H8
  obtain ⟨x0, x1, x2, x3, x4, x5, x6, x7⟩ := H8f.out.cells.c8
  go_upto_if 29 with fail
  go_cut [5] from 30 to 33 (fun t5 wx => ∃ p c, t5 = .slice p (if raw then data else full data).length c ∧ OwnB wb.heap.size wx t5 (if raw then data else full data) ∧ Below wf.heap.size wf wx)
  case first =>
    as_aux_lemma =>
    cases raw with
    | false =>
      go_wp2_with fail
      go_meet
      exact ⟨_, _, by rw [if_neg (by decide), full_length], by rw [if_neg (by decide)]; exact Hof.out, Below.refl _ _⟩
    | true =>
      obtain ⟨pk, ck2, wcc, hrunk, hkc, hBc⟩ := copyD Hdf.out hhf (by omega) (n := wf.heap.size) rfl
      go_wp2_with (at_builtin; refine AtApp.of ?_)
      refine AtApp.go hrunk rfl rfl rfl rfl ?_
      clear hrunk
      go_wp2_with fail
      go_meet
      exact ⟨_, _, by first | rw [if_pos rfl] | rw [if_pos trivial], ifp (Own.mono0 hkc hzf), hBc⟩
  case rest =>
  obtain ⟨pd, cd2, rfl, hoc, hBc⟩ := hcut
  obtain ⟨wa, ewa⟩ : ∃ x, x = wc := ⟨_, rfl⟩
  subst ewa
  have hza := hBc.size
  have HBa := Lib.hid (HBf.out.trans (hBc.mono (by omega)))
  have H8a := Lib.hid (H8f.out.below hBc q8f)
  have Hda := Lib.hid (show OwnB wb.heap.size wa (.slice pd (if raw then data else full data).length cd2) (if raw then data else full data) from hoc)
  have Hka := Lib.hid (Sl.below Hkf.out (flat_loc _) hBc hhf)
  have hha : hi ≤ wa.heap.size := Nat.le_trans hhf hza
  have q8a : w.heap.size < wa.heap.size := by omega
  have qwb : w.heap.size < wb.heap.size := q8
  have Hby : Hid (DOp.bytes ⟨1, i, n, data, raw, keep, tn, at'⟩ = if raw then data else full data) := Lib.hid rfl
  have hdl : (if raw then data else full data).length ≤ 300 := by
    cases raw
    · rw [if_neg (by decide), full_length]; omega
    · rw [if_pos rfl]; exact hl
  have hcv := fun q => str (Sl.below Hda.out.bytes (flat_loc _) (drewN (Below.refl wa.heap.size wa) q) (Nat.le_refl _))
  have hcv0 := str Hda.out.bytes
  clear x0 x1 x2 x3 x4 x5 x6 x7 hoc hBc HBf H8f Hdf Hkf Hof
  generalize (if raw then data else full data) = b at *
  obtain ⟨x0, x1, x2, x3, x4, x5, x6, x7⟩ := H8a.out.cells.c8
  go_upto_region 7 with fail
  obtain ⟨p0, p1⟩ := H.out.cells (w' := wa) (HBa.out.block pb hpl)
  have HD := Lib.hid (H.out.hd.below HBa.out)
  have HU := Lib.hid (H.out.hr.below HBa.out)
  have qpl : pb < wa.heap.size := Nat.lt_of_lt_of_le hpl HBa.out.size
  have HTl : Hid (∀ k, T k → k < wa.heap.size) := Lib.hid (fun k e => by have := Hlt.out k (H.out.t k e).1; omega)
  have HUl : Hid (∀ k, U k → k < wa.heap.size) := Lib.hid (fun k e => by have := Hlt.out k (H.out.u k e).1; omega)
  go_wp2_with fail
  refine Flush_one T db m d wa HD.out HTl.out Hb.out hm _ (fun w1 hO1 hD1 => ?_)
  have HO1 := Lib.hid hO1
  have HD1 := Lib.hid hD1
  clear hO1 hD1
  have q1 := H.out.cells (w' := w1) ((HO1.out.block pb qpl (fun e => (H.out.t pb e).2.1 rfl)).trans (HBa.out.block pb hpl))
  obtain ⟨p10, p11⟩ := q1
  have H81 := Lib.hid (HO1.out.blk H8a.out (fun e => absurd (Hlt.out _ (H.out.t _ e).1) (Nat.lt_irrefl _)))
  have hz1 := HO1.out.size
  have q81 : w.heap.size < w1.heap.size := by omega
  have qpl1 : pb < w1.heap.size := by omega
  have HU1 := Lib.hid (HU.out.only HO1.out (fun k e _ => H.out.apart k e))
  go_wp2_with fail
  refine FlushR_one U rb m d w1 HU1.out (fun k e => by have := HUl.out k e; omega) Hb.out hm _ (fun w2 hO2 hU2 => ?_)
  have HO2 := Lib.hid hO2
  have HU2 := Lib.hid hU2
  clear hO2 hU2
  have hr := HR.out w2 (H.out.on HBa.out HO1.out HO2.out (Below.refl _ _)) ⟨_, _, _, _, H.out.turn HBa.out HO1.out HO2.out (Below.refl _ _) (HD1.out.only HO2.out (fun k e _ e2 => e.elim (fun e => H.out.apart k e2 e) (fun e => absurd (Hlt.out k (H.out.u k e2).1) (by omega)))) HU2.out (fun _ e => e) (fun _ e => e) rfl⟩
  generalize d.flushE = ee at *
  go_wp2_with fail
  first | exact hr | exact fin hr rfl
set_option maxRecDepth 100000 in
set_option maxHeartbeats 8000000 in
theorem do3_any (S : Nat → Prop) (lo hi pb m : Nat) (d : Dk) (x : DOp) (cs : List Value) (w : World) (h : PrAt w S pb d) (hb : Bnd d m) (hm : m < 100000) (hx : opE lo hi w cs x) (hhi : hi ≤ w.heap.size) (hap : ∀ k, S k → k < lo ∨ hi ≤ k) (hl : x.data.length ≤ 300) (hk : x.kind = 3)
    (R : Ending → World → Prop) (hR : ∀ w', Only S w w' → PrAt w' (Wid S w.heap.size w'.heap.size) pb (d.act x) → R (.returned (.bool true)) w') :
    Calls Try.prog 22 #[.pointer (some ⟨pb, 0, none⟩), .agg cs.toArray] w R := by
  obtain ⟨T, U, db, rb, h⟩ := h
  obtain ⟨kind, i, n, data, raw, keep, tn, at'⟩ := x
  obtain ⟨dv, kv, rfl, hdv, hkv⟩ := hx
  simp only at hk hdv hkv hl
  subst hk
  obtain ⟨ad, cd, rfl, -, -, -, -⟩ := hdv.form
  obtain ⟨ak, ck, rfl, -, -, -, -⟩ := hkv.form
  have H := Lib.hid h
  have HR := Lib.hid hR
  have Hb := Lib.hid hb
  have Hap := Lib.hid hap
  have Hlt := Lib.hid h.lt
  have hpl := h.pd.lt
  have hal := alloc_below w (.cells #[.int .i64 3, .int .i64 i, .int .i64 n, .slice ad data.length cd, .bool raw, .slice ak keep.length ck, .int .i64 tn, .int .i64 at'] 36)
  have hb8 := Blk.new w [.int .i64 3, .int .i64 i, .int .i64 n, .slice ad data.length cd, .bool raw, .slice ak keep.length ck, .int .i64 tn, .int .i64 at'] 36 rfl
  have Hdv := Lib.hid (Sl.below hdv (flat_loc _) hal hhi)
  have Hkv := Lib.hid (Sl.below hkv (flat_loc _) hal hhi)
  clear h hR hb hap hdv hkv
  go_enter Try.func22, Try.ntmps22
  go_upto_region 1 with fail
  generalize w.alloc (.cells #[.int .i64 3, .int .i64 i, .int .i64 n, .slice ad data.length cd, .bool raw, .slice ak keep.length ck, .int .i64 tn, .int .i64 at'] 36) = wb at *
  have hzb := hal.size
  have hhb : hi ≤ wb.heap.size := Nat.le_trans hhi hzb
  have q8 := hb8.lt
  obtain ⟨x0, x1, x2, x3, x4, x5, x6, x7⟩ := hb8.cells.c8
  have HBb := Lib.hid hal
  have H8 := Lib.hid hb8
  clear hal hb8
  go_wp2_with fail
  refine Full_any lo hi _ data wb Hdv.out hhb _ (fun wf hBf hbf => ?_)
  have hzf := hBf.size
  have HBf := Lib.hid (HBb.out.trans (hBf.mono hzb))
  have H8f := Lib.hid (H8.out.below hBf q8)
  have Hdf := Lib.hid (Sl.below Hdv.out (flat_loc _) hBf hhb)
  have Hkf := Lib.hid (Sl.below Hkv.out (flat_loc _) hBf hhb)
  have hhf : hi ≤ wf.heap.size := Nat.le_trans hhb hzf
  have Hof := Lib.hid (full_own hbf (Nat.le_refl _))
  have q8f : w.heap.size < wf.heap.size := by omega
  clear x0 x1 x2 x3 x4 x5 x6 x7 hBf hbf Hdv Hkv H8
  obtain ⟨x0, x1, x2, x3, x4, x5, x6, x7⟩ := H8f.out.cells.c8
  go_upto_if 29 with fail
  go_cut [5] from 30 to 33 (fun t5 wx => ∃ p c, t5 = .slice p (if raw then data else full data).length c ∧ OwnB wb.heap.size wx t5 (if raw then data else full data) ∧ Below wf.heap.size wf wx)
  case first =>
    as_aux_lemma =>
    cases raw with
    | false =>
      go_wp2_with fail
      go_meet
      exact ⟨_, _, by rw [if_neg (by decide), full_length], by rw [if_neg (by decide)]; exact Hof.out, Below.refl _ _⟩
    | true =>
      obtain ⟨pk, ck2, wcc, hrunk, hkc, hBc⟩ := copyD Hdf.out hhf (by omega) (n := wf.heap.size) rfl
      go_wp2_with (at_builtin; refine AtApp.of ?_)
      refine AtApp.go hrunk rfl rfl rfl rfl ?_
      clear hrunk
      go_wp2_with fail
      go_meet
      exact ⟨_, _, by first | rw [if_pos rfl] | rw [if_pos trivial], ifp (Own.mono0 hkc hzf), hBc⟩
  case rest =>
  obtain ⟨pd, cd2, rfl, hoc, hBc⟩ := hcut
  obtain ⟨wa, ewa⟩ : ∃ x, x = wc := ⟨_, rfl⟩
  subst ewa
  have hza := hBc.size
  have HBa := Lib.hid (HBf.out.trans (hBc.mono (by omega)))
  have H8a := Lib.hid (H8f.out.below hBc q8f)
  have Hda := Lib.hid (show OwnB wb.heap.size wa (.slice pd (if raw then data else full data).length cd2) (if raw then data else full data) from hoc)
  have Hka := Lib.hid (Sl.below Hkf.out (flat_loc _) hBc hhf)
  have hha : hi ≤ wa.heap.size := Nat.le_trans hhf hza
  have q8a : w.heap.size < wa.heap.size := by omega
  have qwb : w.heap.size < wb.heap.size := q8
  have Hby : Hid (DOp.bytes ⟨3, i, n, data, raw, keep, tn, at'⟩ = if raw then data else full data) := Lib.hid rfl
  have hdl : (if raw then data else full data).length ≤ 300 := by
    cases raw
    · rw [if_neg (by decide), full_length]; omega
    · rw [if_pos rfl]; exact hl
  have hcv := fun q => str (Sl.below Hda.out.bytes (flat_loc _) (drewN (Below.refl wa.heap.size wa) q) (Nat.le_refl _))
  have hcv0 := str Hda.out.bytes
  clear x0 x1 x2 x3 x4 x5 x6 x7 hoc hBc HBf H8f Hdf Hkf Hof
  generalize (if raw then data else full data) = b at *
  obtain ⟨x0, x1, x2, x3, x4, x5, x6, x7⟩ := H8a.out.cells.c8
  go_upto_region 7 with fail
  obtain ⟨p0, p1⟩ := H.out.cells (w' := wa) (HBa.out.block pb hpl)
  have HD := Lib.hid (H.out.hd.below HBa.out)
  have HU := Lib.hid (H.out.hr.below HBa.out)
  have qpl : pb < wa.heap.size := Nat.lt_of_lt_of_le hpl HBa.out.size
  go_wp2_with fail
  refine wp_region_held_drew (S := fun w' => Only T wa w') (by kernel_rfl) (Only.drew _) (fun hHeld => ?_)
  refine wpAnyH_take (i := 0) (v := .pointer (some ⟨pb, 0, none⟩)) rfl (by kernel_rfl) (by kernel_rfl) (by kernel_rfl) (fun _ _ _ h => h) (Or.inl ⟨by rfl, ?_⟩) hHeld ?_
  · intro w' hSw; go_simp
  try simp only [Act.put, List.getElem_toArray, List.getElem_cons_succ, List.getElem_cons_zero, List.setIfInBounds_toArray, List.set_cons_zero, List.set_cons_succ]
  refine wpAnyH_take (i := 1) (v := .pointer (some ⟨pb, 0, none⟩)) rfl (by kernel_rfl) (by kernel_rfl) (by kernel_rfl) (fun _ _ _ h => h) (Or.inl ⟨by rfl, ?_⟩) hHeld ?_
  · intro w' hSw; go_simp
  try simp only [Act.put, List.getElem_toArray, List.getElem_cons_succ, List.getElem_cons_zero, List.setIfInBounds_toArray, List.set_cons_zero, List.set_cons_succ]
  refine wpAnyH_take (i := 2) (v := .pointer (some ⟨pb, 0, none⟩)) rfl (by kernel_rfl) (by kernel_rfl) (by kernel_rfl) (fun _ _ _ h => h) (Or.inl ⟨by rfl, ?_⟩) hHeld ?_
  · intro w' hSw; go_simp
  try simp only [Act.put, List.getElem_toArray, List.getElem_cons_succ, List.getElem_cons_zero, List.setIfInBounds_toArray, List.set_cons_zero, List.set_cons_succ]
  refine wpAnyH_take (i := 3) (v := .pointer (some ⟨db, 0, none⟩)) rfl (by kernel_rfl) (by kernel_rfl) (by kernel_rfl) (fun _ _ _ h => h) (Or.inl ⟨by rfl, ?_⟩) hHeld ?_
  · intro w' hSw; have kx := (World.cell?_of_block (hSw.block _ qpl (fun e => (H.out.t pb e).2.1 rfl))).trans p0; go_simp
  try simp only [Act.put, List.getElem_toArray, List.getElem_cons_succ, List.getElem_cons_zero, List.setIfInBounds_toArray, List.set_cons_zero, List.set_cons_succ]
  refine wpAnyH_take (i := 4) (v := .pointer (some ⟨w.heap.size, 2, none⟩)) rfl (by kernel_rfl) (by kernel_rfl) (by kernel_rfl) (fun _ _ _ h => h) (Or.inl ⟨by rfl, ?_⟩) hHeld ?_
  · intro w' hSw; go_simp
  try simp only [Act.put, List.getElem_toArray, List.getElem_cons_succ, List.getElem_cons_zero, List.setIfInBounds_toArray, List.set_cons_zero, List.set_cons_succ]
  refine wpAnyH_take (i := 5) (v := .int .i64 n) rfl (by kernel_rfl) (by kernel_rfl) (by kernel_rfl) (fun _ _ _ h => h) (Or.inl ⟨by rfl, ?_⟩) hHeld ?_
  · intro w' hSw; have kx := (World.cell?_of_block (hSw.block _ q8a (fun e => absurd (Hlt.out _ (H.out.t _ e).1) (Nat.lt_irrefl _)))).trans x2; go_simp
  try simp only [Act.put, List.getElem_toArray, List.getElem_cons_succ, List.getElem_cons_zero, List.setIfInBounds_toArray, List.set_cons_zero, List.set_cons_succ]
  refine wpAnyH_ready (rs := [6]) (by kernel_rfl) (by simp) ?_
  refine allCall (f := 23) (args := #[.pointer (some ⟨db, 0, none⟩), .int .i64 n]) rfl (by kernel_rfl) (by kernel_rfl) ?_ AllReadyH.nil
  refine Fuse_any T db d n wa.drew (HD.out.keep (fun _ _ _ => rfl) (fun _ e => e)) _ (fun hn0 => ?_) (fun hn0 w1 hO hzz hD1 => ?_)
  · refine ⟨_, rfl, hHeld, ?_⟩
    try simp only [Act.put, List.getElem_toArray, List.getElem_cons_succ, List.getElem_cons_zero, List.setIfInBounds_toArray, List.set_cons_zero, List.set_cons_succ]
    refine wpAnyH_take (i := 7) (v := .int .i64 2) rfl (by kernel_rfl) (by kernel_rfl) (by kernel_rfl) (fun _ _ _ h => h) (Or.inl ⟨by rfl, ?_⟩) hHeld ?_
    · intro w' hSw; go_simp
    try simp only [Act.put, List.getElem_toArray, List.getElem_cons_succ, List.getElem_cons_zero, List.setIfInBounds_toArray, List.set_cons_zero, List.set_cons_succ]
    refine wpAnyH_done (by kernel_rfl) ?_ _
    clear hHeld
    have hO0 : Only U wa.drew wa.drew := Only.refl _ _
    have hr := HR.out wa.drew (H.out.on HBa.out (Only.drew _) hO0 (Below.refl _ _)) ⟨_, _, _, _, H.out.turn HBa.out (Only.drew _) hO0 (Below.refl _ _) (d' := Dk.act d ⟨3, i, n, data, raw, keep, tn, at'⟩) (by rw [act3n _ _ _ _ _ _ _ _ hn0]; exact HD.out.keep (fun _ _ _ => rfl) (fun _ e => e)) (by rw [act3n _ _ _ _ _ _ _ _ hn0]; exact HU.out.keep (fun _ _ _ => rfl) (fun _ e => e)) (fun _ e => .inl e) (fun _ e => .inl e) rfl⟩
    have y2 : wa.drew.cell? ⟨w.heap.size, 0 + 2, none⟩ = some (.int .i64 n) := x2
    clear x0 x1 x2 x3 x4 x5 x6 x7
    go_wp2_with fail
    first | exact hr | exact fin hr rfl
  · have hO1' : Only T wa w1 := hHeld.trans (hO.mono (fun k _ e => by subst e; obtain ⟨_, _, _, _, _, hh⟩ := HD.out; exact hh.sd))
    refine ⟨_, rfl, hO1', ?_⟩
    clear hHeld
    have hHeld := hO1'
    try simp only [Act.put, List.getElem_toArray, List.getElem_cons_succ, List.getElem_cons_zero, List.setIfInBounds_toArray, List.set_cons_zero, List.set_cons_succ]
    refine wpAnyH_take (i := 7) (v := .int .i64 0) rfl (by kernel_rfl) (by kernel_rfl) (by kernel_rfl) (fun _ _ _ h => h) (Or.inl ⟨by rfl, ?_⟩) hHeld ?_
    · intro w' hSw; go_simp
    try simp only [Act.put, List.getElem_toArray, List.getElem_cons_succ, List.getElem_cons_zero, List.setIfInBounds_toArray, List.set_cons_zero, List.set_cons_succ]
    refine wpAnyH_done (by kernel_rfl) ?_ _
    clear hHeld
    have HO1 := Lib.hid hO1'
    have HD1 := Lib.hid hD1
    clear hO1' hO hD1
    have q1 := H.out.cells (w' := w1) ((HO1.out.block pb qpl (fun e => (H.out.t pb e).2.1 rfl)).trans (HBa.out.block pb hpl))
    obtain ⟨p10, p11⟩ := q1
    have H81 := Lib.hid (HO1.out.blk H8a.out (fun e => absurd (Hlt.out _ (H.out.t _ e).1) (Nat.lt_irrefl _)))
    have hz1 := HO1.out.size
    have q81 : w.heap.size < w1.heap.size := by omega
    have qpl1 : pb < w1.heap.size := by omega
    have HU1 := Lib.hid (HU.out.only HO1.out (fun k e _ => H.out.apart k e))
    obtain ⟨y0, y1, y2, y3, y4, y5, y6, y7⟩ := H81.out.cells.c8
    clear x0 x1 x2 x3 x4 x5 x6 x7
    obtain ⟨lb, c, ws, hri⟩ := HU1.out
    have npb : pb ≠ rb := fun e => (H.out.u rb hri.sr).2 e.symm
    have nxb : w.heap.size ≠ rb := fun e => absurd (Hlt.out rb (H.out.u rb hri.sr).1) (by omega)
    have kz : w1.drew.frozen? ⟨rb, 1, none⟩ = false := hri.hd.free 1
    have ky : w1.drew.cell? ⟨rb, 1, none⟩ = some (.int .i64 d.fuse) := hri.hd.cells.c4.2.1
    have hr2 := (hri.keep (w' := w1.drew) (fun _ _ _ => rfl) (fun _ e => e)).head (Only.setCell (A := (· = rb)) w1.drew (p := ⟨rb, 1, none⟩) rfl (.int .i64 n)) n d.ops d.down (hri.hd.set 1 (.int .i64 n))
    have hO2 : Only U w1 (w1.drew.setCell ⟨rb, 1, none⟩ (.int .i64 n)) := (Only.drew _).trans (Only.setCell w1.drew (p := ⟨rb, 1, none⟩) hri.sr _)
    have hr := HR.out (w1.drew.setCell ⟨rb, 1, none⟩ (.int .i64 n)) (H.out.on HBa.out HO1.out hO2 (Below.refl _ _)) ⟨_, _, _, _, H.out.turn HBa.out HO1.out hO2 (Below.refl _ _) (d' := Dk.act d ⟨3, i, n, data, raw, keep, tn, at'⟩) (by rw [act3 _ _ _ _ _ _ _ _ hn0]; exact HD1.out.only hO2 (fun k e _ e2 => H.out.apart k e2 e)) (by rw [act3 _ _ _ _ _ _ _ _ hn0]; exact ⟨lb, c, ws, hr2⟩) (fun _ e => .inl e) (fun _ e => .inl e) rfl⟩
    have n0 : ¬ n < 0 := by omega
    clear hri hr2 hO2
    go_wp2_with fail
    refine wp_region_held_drew (S := fun w' => Only (· = rb) w1 w') (by kernel_rfl) (Only.drew _) (fun hHeld => ?_)
    refine wpAnyH_take (i := 0) (v := .pointer (some ⟨pb, 0, none⟩)) rfl (by kernel_rfl) (by kernel_rfl) (by kernel_rfl) (fun _ _ _ h => h) (Or.inl ⟨by rfl, ?_⟩) hHeld ?_
    · intro w' hSw; go_simp
    try simp only [Act.put, List.getElem_toArray, List.getElem_cons_succ, List.getElem_cons_zero, List.setIfInBounds_toArray, List.set_cons_zero, List.set_cons_succ]
    refine wpAnyH_take (i := 1) (v := .pointer (some ⟨pb, 0, none⟩)) rfl (by kernel_rfl) (by kernel_rfl) (by kernel_rfl) (fun _ _ _ h => h) (Or.inl ⟨by rfl, ?_⟩) hHeld ?_
    · intro w' hSw; go_simp
    try simp only [Act.put, List.getElem_toArray, List.getElem_cons_succ, List.getElem_cons_zero, List.setIfInBounds_toArray, List.set_cons_zero, List.set_cons_succ]
    refine wpAnyH_take (i := 2) (v := .pointer (some ⟨pb, 1, none⟩)) rfl (by kernel_rfl) (by kernel_rfl) (by kernel_rfl) (fun _ _ _ h => h) (Or.inl ⟨by rfl, ?_⟩) hHeld ?_
    · intro w' hSw; go_simp
    try simp only [Act.put, List.getElem_toArray, List.getElem_cons_succ, List.getElem_cons_zero, List.setIfInBounds_toArray, List.set_cons_zero, List.set_cons_succ]
    refine wpAnyH_take (i := 3) (v := .pointer (some ⟨rb, 0, none⟩)) rfl (by kernel_rfl) (by kernel_rfl) (by kernel_rfl) (fun _ _ _ h => h) (Or.inl ⟨by rfl, ?_⟩) hHeld ?_
    · intro w' hSw; have kx := (World.cell?_of_block (hSw.block _ qpl1 npb)).trans p11; go_simp
    try simp only [Act.put, List.getElem_toArray, List.getElem_cons_succ, List.getElem_cons_zero, List.setIfInBounds_toArray, List.set_cons_zero, List.set_cons_succ]
    refine wpAnyH_take (i := 4) (v := .pointer (some ⟨w.heap.size, 2, none⟩)) rfl (by kernel_rfl) (by kernel_rfl) (by kernel_rfl) (fun _ _ _ h => h) (Or.inl ⟨by rfl, ?_⟩) hHeld ?_
    · intro w' hSw; go_simp
    try simp only [Act.put, List.getElem_toArray, List.getElem_cons_succ, List.getElem_cons_zero, List.setIfInBounds_toArray, List.set_cons_zero, List.set_cons_succ]
    refine wpAnyH_take (i := 5) (v := .int .i64 n) rfl (by kernel_rfl) (by kernel_rfl) (by kernel_rfl) (fun _ _ _ h => h) (Or.inl ⟨by rfl, ?_⟩) hHeld ?_
    · intro w' hSw; have kx := (World.cell?_of_block (hSw.block _ q81 nxb)).trans y2; go_simp
    try simp only [Act.put, List.getElem_toArray, List.getElem_cons_succ, List.getElem_cons_zero, List.setIfInBounds_toArray, List.set_cons_zero, List.set_cons_succ]
    refine wpAnyH_take (i := 6) (v := .pointer (some ⟨rb, 0, none⟩)) rfl (by kernel_rfl) (by kernel_rfl) (by kernel_rfl) (fun _ _ _ h => h) (Or.inl ⟨by rfl, ?_⟩) hHeld ?_
    · intro w' hSw; go_simp
    try simp only [Act.put, List.getElem_toArray, List.getElem_cons_succ, List.getElem_cons_zero, List.setIfInBounds_toArray, List.set_cons_zero, List.set_cons_succ]
    refine wpAnyH_take (i := 7) (v := .pointer (some ⟨rb, 1, none⟩)) rfl (by kernel_rfl) (by kernel_rfl) (by kernel_rfl) (fun _ _ _ h => h) (Or.inl ⟨by rfl, ?_⟩) hHeld ?_
    · intro w' hSw; go_simp
    try simp only [Act.put, List.getElem_toArray, List.getElem_cons_succ, List.getElem_cons_zero, List.setIfInBounds_toArray, List.set_cons_zero, List.set_cons_succ]
    refine wpAnyH_ready (rs := [8]) (by kernel_rfl) (by simp) ?_
    refine allSkip (w' := w1.drew.setCell ⟨rb, 1, none⟩ (.int .i64 n)) rfl (by kernel_rfl) ?_ (hHeld.trans (Only.setCell (A := (· = rb)) w1.drew (p := ⟨rb, 1, none⟩) rfl _)) ?_ AllReadyH.nil
    · have kx := ky
      have kf := kz
      go_simp
    try simp only [Act.put, List.getElem_toArray, List.getElem_cons_succ, List.getElem_cons_zero, List.setIfInBounds_toArray, List.set_cons_zero, List.set_cons_succ]
    refine wpAnyH_done (by kernel_rfl) ?_ _
    clear hHeld
    go_wp2_with fail
    first | exact hr | exact fin hr rfl
set_option maxRecDepth 100000 in
set_option maxHeartbeats 8000000 in
theorem do4_any (S : Nat → Prop) (lo hi pb m : Nat) (d : Dk) (x : DOp) (cs : List Value) (w : World) (h : PrAt w S pb d) (hb : Bnd d m) (hm : m < 100000) (hx : opE lo hi w cs x) (hhi : hi ≤ w.heap.size) (hap : ∀ k, S k → k < lo ∨ hi ≤ k) (hl : x.data.length ≤ 300) (hk : x.kind = 4)
    (R : Ending → World → Prop) (hR : ∀ w', Only S w w' → PrAt w' (Wid S w.heap.size w'.heap.size) pb (d.act x) → R (.returned (.bool true)) w') :
    Calls Try.prog 22 #[.pointer (some ⟨pb, 0, none⟩), .agg cs.toArray] w R := by
  obtain ⟨T, U, db, rb, h⟩ := h
  obtain ⟨kind, i, n, data, raw, keep, tn, at'⟩ := x
  obtain ⟨dv, kv, rfl, hdv, hkv⟩ := hx
  simp only at hk hdv hkv hl
  subst hk
  obtain ⟨ad, cd, rfl, -, -, -, -⟩ := hdv.form
  obtain ⟨ak, ck, rfl, -, -, -, -⟩ := hkv.form
  have H := Lib.hid h
  have HR := Lib.hid hR
  have Hb := Lib.hid hb
  have Hap := Lib.hid hap
  have Hlt := Lib.hid h.lt
  have hpl := h.pd.lt
  have hal := alloc_below w (.cells #[.int .i64 4, .int .i64 i, .int .i64 n, .slice ad data.length cd, .bool raw, .slice ak keep.length ck, .int .i64 tn, .int .i64 at'] 36)
  have hb8 := Blk.new w [.int .i64 4, .int .i64 i, .int .i64 n, .slice ad data.length cd, .bool raw, .slice ak keep.length ck, .int .i64 tn, .int .i64 at'] 36 rfl
  have Hdv := Lib.hid (Sl.below hdv (flat_loc _) hal hhi)
  have Hkv := Lib.hid (Sl.below hkv (flat_loc _) hal hhi)
  clear h hR hb hap hdv hkv
  go_enter Try.func22, Try.ntmps22
  go_upto_region 1 with fail
  generalize w.alloc (.cells #[.int .i64 4, .int .i64 i, .int .i64 n, .slice ad data.length cd, .bool raw, .slice ak keep.length ck, .int .i64 tn, .int .i64 at'] 36) = wb at *
  have hzb := hal.size
  have hhb : hi ≤ wb.heap.size := Nat.le_trans hhi hzb
  have q8 := hb8.lt
  obtain ⟨x0, x1, x2, x3, x4, x5, x6, x7⟩ := hb8.cells.c8
  have HBb := Lib.hid hal
  have H8 := Lib.hid hb8
  clear hal hb8
  go_wp2_with fail
  refine Full_any lo hi _ data wb Hdv.out hhb _ (fun wf hBf hbf => ?_)
  have hzf := hBf.size
  have HBf := Lib.hid (HBb.out.trans (hBf.mono hzb))
  have H8f := Lib.hid (H8.out.below hBf q8)
  have Hdf := Lib.hid (Sl.below Hdv.out (flat_loc _) hBf hhb)
  have Hkf := Lib.hid (Sl.below Hkv.out (flat_loc _) hBf hhb)
  have hhf : hi ≤ wf.heap.size := Nat.le_trans hhb hzf
  have Hof := Lib.hid (full_own hbf (Nat.le_refl _))
  have q8f : w.heap.size < wf.heap.size := by omega
  clear x0 x1 x2 x3 x4 x5 x6 x7 hBf hbf Hdv Hkv H8
  obtain ⟨x0, x1, x2, x3, x4, x5, x6, x7⟩ := H8f.out.cells.c8
  go_upto_if 29 with fail
  go_cut [5] from 30 to 33 (fun t5 wx => ∃ p c, t5 = .slice p (if raw then data else full data).length c ∧ OwnB wb.heap.size wx t5 (if raw then data else full data) ∧ Below wf.heap.size wf wx)
  case first =>
    as_aux_lemma =>
    cases raw with
    | false =>
      go_wp2_with fail
      go_meet
      exact ⟨_, _, by rw [if_neg (by decide), full_length], by rw [if_neg (by decide)]; exact Hof.out, Below.refl _ _⟩
    | true =>
      obtain ⟨pk, ck2, wcc, hrunk, hkc, hBc⟩ := copyD Hdf.out hhf (by omega) (n := wf.heap.size) rfl
      go_wp2_with (at_builtin; refine AtApp.of ?_)
      refine AtApp.go hrunk rfl rfl rfl rfl ?_
      clear hrunk
      go_wp2_with fail
      go_meet
      exact ⟨_, _, by first | rw [if_pos rfl] | rw [if_pos trivial], ifp (Own.mono0 hkc hzf), hBc⟩
  case rest =>
  obtain ⟨pd, cd2, rfl, hoc, hBc⟩ := hcut
  obtain ⟨wa, ewa⟩ : ∃ x, x = wc := ⟨_, rfl⟩
  subst ewa
  have hza := hBc.size
  have HBa := Lib.hid (HBf.out.trans (hBc.mono (by omega)))
  have H8a := Lib.hid (H8f.out.below hBc q8f)
  have Hda := Lib.hid (show OwnB wb.heap.size wa (.slice pd (if raw then data else full data).length cd2) (if raw then data else full data) from hoc)
  have Hka := Lib.hid (Sl.below Hkf.out (flat_loc _) hBc hhf)
  have hha : hi ≤ wa.heap.size := Nat.le_trans hhf hza
  have q8a : w.heap.size < wa.heap.size := by omega
  have qwb : w.heap.size < wb.heap.size := q8
  have Hby : Hid (DOp.bytes ⟨4, i, n, data, raw, keep, tn, at'⟩ = if raw then data else full data) := Lib.hid rfl
  have hdl : (if raw then data else full data).length ≤ 300 := by
    cases raw
    · rw [if_neg (by decide), full_length]; omega
    · rw [if_pos rfl]; exact hl
  have hcv := fun q => str (Sl.below Hda.out.bytes (flat_loc _) (drewN (Below.refl wa.heap.size wa) q) (Nat.le_refl _))
  have hcv0 := str Hda.out.bytes
  clear x0 x1 x2 x3 x4 x5 x6 x7 hoc hBc HBf H8f Hdf Hkf Hof
  generalize (if raw then data else full data) = b at *
  obtain ⟨x0, x1, x2, x3, x4, x5, x6, x7⟩ := H8a.out.cells.c8
  go_upto_region 7 with fail
  obtain ⟨p0, p1⟩ := H.out.cells (w' := wa) (HBa.out.block pb hpl)
  have HD := Lib.hid (H.out.hd.below HBa.out)
  have HU := Lib.hid (H.out.hr.below HBa.out)
  go_wp2_with fail
  refine Pull_any T db d wa HD.out _ (fun w1 hO1 hz1 hD1 => ?_)
  have hO1' : Only T wa w1 := hO1.mono (fun k _ e => by subst e; obtain ⟨_, _, _, _, _, hh⟩ := HD.out; exact hh.sd)
  obtain ⟨lb, c, ws, hri⟩ := HU.out.only hO1' (fun k e _ => H.out.apart k e)
  have q1 := (H.out.cells (w' := w1) ((hO1'.block pb (Nat.lt_of_lt_of_le hpl HBa.out.size) (fun e => (H.out.t pb e).2.1 rfl)).trans (HBa.out.block pb hpl))).2
  obtain ⟨c0, c1, c2, c3⟩ := hri.hd.cells.c4
  have f2 := hri.hd.free 2
  have hr2 := hri.head (Only.setCell (A := (· = rb)) w1 (p := ⟨rb, 2, none⟩) rfl (.bool true)) d.fuse d.ops true (hri.hd.set 2 (.bool true))
  have hO2 : Only U w1 (w1.setCell ⟨rb, 2, none⟩ (.bool true)) := Only.setCell w1 (p := ⟨rb, 2, none⟩) hri.sr _
  have hr := HR.out (w1.setCell ⟨rb, 2, none⟩ (.bool true)) (H.out.on HBa.out hO1' hO2 (Below.refl _ _)) ⟨_, _, _, _, H.out.turn HBa.out hO1' hO2 (Below.refl _ _) (hD1.only hO2 (fun k e _ e2 => H.out.apart k e2 e)) ⟨lb, c, ws, hr2⟩ (fun _ e => .inl e) (fun _ e => .inl e) rfl⟩
  clear hri hr2 hO2 hO1' hO1 hD1
  go_wp2_with fail
  first | exact hr | exact fin hr rfl
set_option maxRecDepth 100000 in
set_option maxHeartbeats 8000000 in
theorem do5_any (S : Nat → Prop) (lo hi pb m : Nat) (d : Dk) (x : DOp) (cs : List Value) (w : World) (h : PrAt w S pb d) (hb : Bnd d m) (hm : m < 100000) (hx : opE lo hi w cs x) (hhi : hi ≤ w.heap.size) (hap : ∀ k, S k → k < lo ∨ hi ≤ k) (hl : x.data.length ≤ 300) (hk : x.kind = 5)
    (R : Ending → World → Prop) (hR : ∀ w', Only S w w' → PrAt w' (Wid S w.heap.size w'.heap.size) pb (d.act x) → R (.returned (.bool true)) w') :
    Calls Try.prog 22 #[.pointer (some ⟨pb, 0, none⟩), .agg cs.toArray] w R := by
  obtain ⟨T, U, db, rb, h⟩ := h
  obtain ⟨kind, i, n, data, raw, keep, tn, at'⟩ := x
  obtain ⟨dv, kv, rfl, hdv, hkv⟩ := hx
  simp only at hk hdv hkv hl
  subst hk
  obtain ⟨ad, cd, rfl, -, -, -, -⟩ := hdv.form
  obtain ⟨ak, ck, rfl, -, -, -, -⟩ := hkv.form
  have H := Lib.hid h
  have HR := Lib.hid hR
  have Hb := Lib.hid hb
  have Hap := Lib.hid hap
  have Hlt := Lib.hid h.lt
  have hpl := h.pd.lt
  have hal := alloc_below w (.cells #[.int .i64 5, .int .i64 i, .int .i64 n, .slice ad data.length cd, .bool raw, .slice ak keep.length ck, .int .i64 tn, .int .i64 at'] 36)
  have hb8 := Blk.new w [.int .i64 5, .int .i64 i, .int .i64 n, .slice ad data.length cd, .bool raw, .slice ak keep.length ck, .int .i64 tn, .int .i64 at'] 36 rfl
  have Hdv := Lib.hid (Sl.below hdv (flat_loc _) hal hhi)
  have Hkv := Lib.hid (Sl.below hkv (flat_loc _) hal hhi)
  clear h hR hb hap hdv hkv
  go_enter Try.func22, Try.ntmps22
  go_upto_region 1 with fail
  generalize w.alloc (.cells #[.int .i64 5, .int .i64 i, .int .i64 n, .slice ad data.length cd, .bool raw, .slice ak keep.length ck, .int .i64 tn, .int .i64 at'] 36) = wb at *
  have hzb := hal.size
  have hhb : hi ≤ wb.heap.size := Nat.le_trans hhi hzb
  have q8 := hb8.lt
  obtain ⟨x0, x1, x2, x3, x4, x5, x6, x7⟩ := hb8.cells.c8
  have HBb := Lib.hid hal
  have H8 := Lib.hid hb8
  clear hal hb8
  go_wp2_with fail
  refine Full_any lo hi _ data wb Hdv.out hhb _ (fun wf hBf hbf => ?_)
  have hzf := hBf.size
  have HBf := Lib.hid (HBb.out.trans (hBf.mono hzb))
  have H8f := Lib.hid (H8.out.below hBf q8)
  have Hdf := Lib.hid (Sl.below Hdv.out (flat_loc _) hBf hhb)
  have Hkf := Lib.hid (Sl.below Hkv.out (flat_loc _) hBf hhb)
  have hhf : hi ≤ wf.heap.size := Nat.le_trans hhb hzf
  have Hof := Lib.hid (full_own hbf (Nat.le_refl _))
  have q8f : w.heap.size < wf.heap.size := by omega
  clear x0 x1 x2 x3 x4 x5 x6 x7 hBf hbf Hdv Hkv H8
  obtain ⟨x0, x1, x2, x3, x4, x5, x6, x7⟩ := H8f.out.cells.c8
  go_upto_if 29 with fail
  go_cut [5] from 30 to 33 (fun t5 wx => ∃ p c, t5 = .slice p (if raw then data else full data).length c ∧ OwnB wb.heap.size wx t5 (if raw then data else full data) ∧ Below wf.heap.size wf wx)
  case first =>
    as_aux_lemma =>
    cases raw with
    | false =>
      go_wp2_with fail
      go_meet
      exact ⟨_, _, by rw [if_neg (by decide), full_length], by rw [if_neg (by decide)]; exact Hof.out, Below.refl _ _⟩
    | true =>
      obtain ⟨pk, ck2, wcc, hrunk, hkc, hBc⟩ := copyD Hdf.out hhf (by omega) (n := wf.heap.size) rfl
      go_wp2_with (at_builtin; refine AtApp.of ?_)
      refine AtApp.go hrunk rfl rfl rfl rfl ?_
      clear hrunk
      go_wp2_with fail
      go_meet
      exact ⟨_, _, by first | rw [if_pos rfl] | rw [if_pos trivial], ifp (Own.mono0 hkc hzf), hBc⟩
  case rest =>
  obtain ⟨pd, cd2, rfl, hoc, hBc⟩ := hcut
  obtain ⟨wa, ewa⟩ : ∃ x, x = wc := ⟨_, rfl⟩
  subst ewa
  have hza := hBc.size
  have HBa := Lib.hid (HBf.out.trans (hBc.mono (by omega)))
  have H8a := Lib.hid (H8f.out.below hBc q8f)
  have Hda := Lib.hid (show OwnB wb.heap.size wa (.slice pd (if raw then data else full data).length cd2) (if raw then data else full data) from hoc)
  have Hka := Lib.hid (Sl.below Hkf.out (flat_loc _) hBc hhf)
  have hha : hi ≤ wa.heap.size := Nat.le_trans hhf hza
  have q8a : w.heap.size < wa.heap.size := by omega
  have qwb : w.heap.size < wb.heap.size := q8
  have Hby : Hid (DOp.bytes ⟨5, i, n, data, raw, keep, tn, at'⟩ = if raw then data else full data) := Lib.hid rfl
  have hdl : (if raw then data else full data).length ≤ 300 := by
    cases raw
    · rw [if_neg (by decide), full_length]; omega
    · rw [if_pos rfl]; exact hl
  have hcv := fun q => str (Sl.below Hda.out.bytes (flat_loc _) (drewN (Below.refl wa.heap.size wa) q) (Nat.le_refl _))
  have hcv0 := str Hda.out.bytes
  clear x0 x1 x2 x3 x4 x5 x6 x7 hoc hBc HBf H8f Hdf Hkf Hof
  generalize (if raw then data else full data) = b at *
  obtain ⟨x0, x1, x2, x3, x4, x5, x6, x7⟩ := H8a.out.cells.c8
  go_upto_region 7 with fail
  obtain ⟨p0, p1⟩ := H.out.cells (w' := wa) (HBa.out.block pb hpl)
  have HD := Lib.hid (H.out.hd.below HBa.out)
  have HU := Lib.hid (H.out.hr.below HBa.out)
  have qpl : pb < wa.heap.size := Nat.lt_of_lt_of_le hpl HBa.out.size
  have HTl : Hid (∀ k, T k → k < wa.heap.size) := Lib.hid (fun k e => by have := Hlt.out k (H.out.t k e).1; omega)
  have HUl : Hid (∀ k, U k → k < wa.heap.size) := Lib.hid (fun k e => by have := Hlt.out k (H.out.u k e).1; omega)
  go_wp2_with fail
  refine wp_region_held_drew (S := fun w' => Only T wa w') (by kernel_rfl) (Only.drew _) (fun hHeld => ?_)
  refine wpAnyH_take (i := 0) (v := .pointer (some ⟨pb, 0, none⟩)) rfl (by kernel_rfl) (by kernel_rfl) (by kernel_rfl) (fun _ _ _ h => h) (Or.inl ⟨by rfl, ?_⟩) hHeld ?_
  · intro w' hSw; go_simp
  try simp only [Act.put, List.getElem_toArray, List.getElem_cons_succ, List.getElem_cons_zero, List.setIfInBounds_toArray, List.set_cons_zero, List.set_cons_succ]
  refine wpAnyH_take (i := 1) (v := .pointer (some ⟨pb, 0, none⟩)) rfl (by kernel_rfl) (by kernel_rfl) (by kernel_rfl) (fun _ _ _ h => h) (Or.inl ⟨by rfl, ?_⟩) hHeld ?_
  · intro w' hSw; go_simp
  try simp only [Act.put, List.getElem_toArray, List.getElem_cons_succ, List.getElem_cons_zero, List.setIfInBounds_toArray, List.set_cons_zero, List.set_cons_succ]
  refine wpAnyH_take (i := 2) (v := .pointer (some ⟨pb, 0, none⟩)) rfl (by kernel_rfl) (by kernel_rfl) (by kernel_rfl) (fun _ _ _ h => h) (Or.inl ⟨by rfl, ?_⟩) hHeld ?_
  · intro w' hSw; go_simp
  try simp only [Act.put, List.getElem_toArray, List.getElem_cons_succ, List.getElem_cons_zero, List.setIfInBounds_toArray, List.set_cons_zero, List.set_cons_succ]
  refine wpAnyH_take (i := 3) (v := .pointer (some ⟨db, 0, none⟩)) rfl (by kernel_rfl) (by kernel_rfl) (by kernel_rfl) (fun _ _ _ h => h) (Or.inl ⟨by rfl, ?_⟩) hHeld ?_
  · intro w' hSw; have kx := (World.cell?_of_block (hSw.block _ qpl (fun e => (H.out.t pb e).2.1 rfl))).trans p0; go_simp
  try simp only [Act.put, List.getElem_toArray, List.getElem_cons_succ, List.getElem_cons_zero, List.setIfInBounds_toArray, List.set_cons_zero, List.set_cons_succ]
  refine wpAnyH_take (i := 4) (v := .pointer (some ⟨w.heap.size, 5, none⟩)) rfl (by kernel_rfl) (by kernel_rfl) (by kernel_rfl) (fun _ _ _ h => h) (Or.inl ⟨by rfl, ?_⟩) hHeld ?_
  · intro w' hSw; go_simp
  try simp only [Act.put, List.getElem_toArray, List.getElem_cons_succ, List.getElem_cons_zero, List.setIfInBounds_toArray, List.set_cons_zero, List.set_cons_succ]
  refine wpAnyH_take (i := 5) (v := .agg #[.slice ak keep.length ck, .int .i64 tn, .int .i64 at']) rfl (by kernel_rfl) (by kernel_rfl) (by kernel_rfl) (fun _ _ _ h => h) (Or.inl ⟨by rfl, ?_⟩) hHeld ?_
  · intro w' hSw; obtain ⟨k0, k1, k2, k3, k4, k5, k6, k7⟩ := (Only.blk (A := T) hSw H8a.out (fun e => absurd (Hlt.out _ (H.out.t _ e).1) (Nat.lt_irrefl _))).cells.c8; go_simp
  try simp only [Act.put, List.getElem_toArray, List.getElem_cons_succ, List.getElem_cons_zero, List.setIfInBounds_toArray, List.set_cons_zero, List.set_cons_succ]
  refine wpAnyH_ready (rs := [6]) (by kernel_rfl) (by simp) ?_
  refine allCall (f := 16) (args := #[.pointer (some ⟨db, 0, none⟩), .agg #[.slice ak keep.length ck, .int .i64 tn, .int .i64 at']]) rfl (by kernel_rfl) (by kernel_rfl) ?_ AllReadyH.nil
  refine Up_one T lo hi db m d _ keep tn at' wa.drew (HD.out.keep (fun _ _ _ => rfl) (fun _ e => e)) HTl.out (Hka.out.agree (flat_loc _) (fun _ _ _ => rfl)) hha (fun k e => Hap.out k (H.out.t k e).1) Hb.out hm _ (fun w1 hO hD1 => ?_)
  have hO1' : Only T wa w1 := hHeld.trans hO
  refine ⟨_, rfl, hO1', ?_⟩
  clear hHeld
  have hHeld := hO1'
  try simp only [Act.put, List.getElem_toArray, List.getElem_cons_succ, List.getElem_cons_zero, List.setIfInBounds_toArray, List.set_cons_zero, List.set_cons_succ]
  refine wpAnyH_take (i := 7) (v := .int .i64 (d.backE)) rfl (by kernel_rfl) (by kernel_rfl) (by kernel_rfl) (fun _ _ _ h => h) (Or.inl ⟨by rfl, ?_⟩) hHeld ?_
  · intro w' hSw; go_simp
  try simp only [Act.put, List.getElem_toArray, List.getElem_cons_succ, List.getElem_cons_zero, List.setIfInBounds_toArray, List.set_cons_zero, List.set_cons_succ]
  refine wpAnyH_done (by kernel_rfl) ?_ _
  clear hHeld
  have HO1 := Lib.hid hO1'
  have HD1 := Lib.hid hD1
  clear hO1' hO hD1
  have q1 := H.out.cells (w' := w1) ((HO1.out.block pb qpl (fun e => (H.out.t pb e).2.1 rfl)).trans (HBa.out.block pb hpl))
  obtain ⟨p10, p11⟩ := q1
  have H81 := Lib.hid (HO1.out.blk H8a.out (fun e => absurd (Hlt.out _ (H.out.t _ e).1) (Nat.lt_irrefl _)))
  have hz1 := HO1.out.size
  have q81 : w.heap.size < w1.heap.size := by omega
  have qpl1 : pb < w1.heap.size := by omega
  have HU1 := Lib.hid (HU.out.only HO1.out (fun k e _ => H.out.apart k e))
  obtain ⟨y0, y1, y2, y3, y4, y5, y6, y7⟩ := H81.out.cells.c8
  have Hk1 := Lib.hid (Sl.agree Hka.out (flat_loc _) (HO1.out.agree hha (fun k e => Hap.out k (H.out.t k e).1)))
  clear x0 x1 x2 x3 x4 x5 x6 x7
  go_wp2_with fail
  refine wp_region_held_drew (S := fun w' => Only U w1 w') (by kernel_rfl) (Only.drew _) (fun hHeld => ?_)
  refine wpAnyH_take (i := 0) (v := .int .i64 (d.backE)) rfl (by kernel_rfl) (by kernel_rfl) (by kernel_rfl) (fun _ _ _ h => h) (Or.inl ⟨by rfl, ?_⟩) hHeld ?_
  · intro w' hSw; go_simp
  try simp only [Act.put, List.getElem_toArray, List.getElem_cons_succ, List.getElem_cons_zero, List.setIfInBounds_toArray, List.set_cons_zero, List.set_cons_succ]
  refine wpAnyH_take (i := 1) (v := .pointer (some ⟨pb, 0, none⟩)) rfl (by kernel_rfl) (by kernel_rfl) (by kernel_rfl) (fun _ _ _ h => h) (Or.inl ⟨by rfl, ?_⟩) hHeld ?_
  · intro w' hSw; go_simp
  try simp only [Act.put, List.getElem_toArray, List.getElem_cons_succ, List.getElem_cons_zero, List.setIfInBounds_toArray, List.set_cons_zero, List.set_cons_succ]
  refine wpAnyH_take (i := 2) (v := .pointer (some ⟨pb, 0, none⟩)) rfl (by kernel_rfl) (by kernel_rfl) (by kernel_rfl) (fun _ _ _ h => h) (Or.inl ⟨by rfl, ?_⟩) hHeld ?_
  · intro w' hSw; go_simp
  try simp only [Act.put, List.getElem_toArray, List.getElem_cons_succ, List.getElem_cons_zero, List.setIfInBounds_toArray, List.set_cons_zero, List.set_cons_succ]
  refine wpAnyH_take (i := 3) (v := .pointer (some ⟨pb, 1, none⟩)) rfl (by kernel_rfl) (by kernel_rfl) (by kernel_rfl) (fun _ _ _ h => h) (Or.inl ⟨by rfl, ?_⟩) hHeld ?_
  · intro w' hSw; go_simp
  try simp only [Act.put, List.getElem_toArray, List.getElem_cons_succ, List.getElem_cons_zero, List.setIfInBounds_toArray, List.set_cons_zero, List.set_cons_succ]
  refine wpAnyH_take (i := 4) (v := .pointer (some ⟨rb, 0, none⟩)) rfl (by kernel_rfl) (by kernel_rfl) (by kernel_rfl) (fun _ _ _ h => h) (Or.inl ⟨by rfl, ?_⟩) hHeld ?_
  · intro w' hSw; have kx := (World.cell?_of_block (hSw.block _ qpl1 (fun e => (H.out.u pb e).2 rfl))).trans p11; go_simp
  try simp only [Act.put, List.getElem_toArray, List.getElem_cons_succ, List.getElem_cons_zero, List.setIfInBounds_toArray, List.set_cons_zero, List.set_cons_succ]
  refine wpAnyH_take (i := 5) (v := .pointer (some ⟨w.heap.size, 5, none⟩)) rfl (by kernel_rfl) (by kernel_rfl) (by kernel_rfl) (fun _ _ _ h => h) (Or.inl ⟨by rfl, ?_⟩) hHeld ?_
  · intro w' hSw; go_simp
  try simp only [Act.put, List.getElem_toArray, List.getElem_cons_succ, List.getElem_cons_zero, List.setIfInBounds_toArray, List.set_cons_zero, List.set_cons_succ]
  refine wpAnyH_take (i := 6) (v := .pointer (some ⟨w.heap.size, 5, none⟩)) rfl (by kernel_rfl) (by kernel_rfl) (by kernel_rfl) (fun _ _ _ h => h) (Or.inl ⟨by rfl, ?_⟩) hHeld ?_
  · intro w' hSw; go_simp
  try simp only [Act.put, List.getElem_toArray, List.getElem_cons_succ, List.getElem_cons_zero, List.setIfInBounds_toArray, List.set_cons_zero, List.set_cons_succ]
  refine wpAnyH_take (i := 7) (v := .slice ak keep.length ck) rfl (by kernel_rfl) (by kernel_rfl) (by kernel_rfl) (fun _ _ _ h => h) (Or.inl ⟨by rfl, ?_⟩) hHeld ?_
  · intro w' hSw; have kx := (World.cell?_of_block (hSw.block _ q81 (fun e => absurd (Hlt.out _ (H.out.u _ e).1) (Nat.lt_irrefl _)))).trans y5; go_simp
  try simp only [Act.put, List.getElem_toArray, List.getElem_cons_succ, List.getElem_cons_zero, List.setIfInBounds_toArray, List.set_cons_zero, List.set_cons_succ]
  refine wpAnyH_take (i := 8) (v := .pointer (some ⟨w.heap.size, 5, none⟩)) rfl (by kernel_rfl) (by kernel_rfl) (by kernel_rfl) (fun _ _ _ h => h) (Or.inl ⟨by rfl, ?_⟩) hHeld ?_
  · intro w' hSw; go_simp
  try simp only [Act.put, List.getElem_toArray, List.getElem_cons_succ, List.getElem_cons_zero, List.setIfInBounds_toArray, List.set_cons_zero, List.set_cons_succ]
  refine wpAnyH_take (i := 9) (v := .pointer (some ⟨w.heap.size, 6, none⟩)) rfl (by kernel_rfl) (by kernel_rfl) (by kernel_rfl) (fun _ _ _ h => h) (Or.inl ⟨by rfl, ?_⟩) hHeld ?_
  · intro w' hSw; go_simp
  try simp only [Act.put, List.getElem_toArray, List.getElem_cons_succ, List.getElem_cons_zero, List.setIfInBounds_toArray, List.set_cons_zero, List.set_cons_succ]
  refine wpAnyH_take (i := 10) (v := .int .i64 tn) rfl (by kernel_rfl) (by kernel_rfl) (by kernel_rfl) (fun _ _ _ h => h) (Or.inl ⟨by rfl, ?_⟩) hHeld ?_
  · intro w' hSw; have kx := (World.cell?_of_block (hSw.block _ q81 (fun e => absurd (Hlt.out _ (H.out.u _ e).1) (Nat.lt_irrefl _)))).trans y6; go_simp
  try simp only [Act.put, List.getElem_toArray, List.getElem_cons_succ, List.getElem_cons_zero, List.setIfInBounds_toArray, List.set_cons_zero, List.set_cons_succ]
  refine wpAnyH_take (i := 11) (v := .pointer (some ⟨w.heap.size, 5, none⟩)) rfl (by kernel_rfl) (by kernel_rfl) (by kernel_rfl) (fun _ _ _ h => h) (Or.inl ⟨by rfl, ?_⟩) hHeld ?_
  · intro w' hSw; go_simp
  try simp only [Act.put, List.getElem_toArray, List.getElem_cons_succ, List.getElem_cons_zero, List.setIfInBounds_toArray, List.set_cons_zero, List.set_cons_succ]
  refine wpAnyH_take (i := 12) (v := .pointer (some ⟨w.heap.size, 7, none⟩)) rfl (by kernel_rfl) (by kernel_rfl) (by kernel_rfl) (fun _ _ _ h => h) (Or.inl ⟨by rfl, ?_⟩) hHeld ?_
  · intro w' hSw; go_simp
  try simp only [Act.put, List.getElem_toArray, List.getElem_cons_succ, List.getElem_cons_zero, List.setIfInBounds_toArray, List.set_cons_zero, List.set_cons_succ]
  refine wpAnyH_take (i := 13) (v := .int .i64 (at')) rfl (by kernel_rfl) (by kernel_rfl) (by kernel_rfl) (fun _ _ _ h => h) (Or.inl ⟨by rfl, ?_⟩) hHeld ?_
  · intro w' hSw; have kx := (World.cell?_of_block (hSw.block _ q81 (fun e => absurd (Hlt.out _ (H.out.u _ e).1) (Nat.lt_irrefl _)))).trans y7; go_simp
  try simp only [Act.put, List.getElem_toArray, List.getElem_cons_succ, List.getElem_cons_zero, List.setIfInBounds_toArray, List.set_cons_zero, List.set_cons_succ]
  refine wpAnyH_ready (rs := [14]) (by kernel_rfl) (by simp) ?_
  refine allCall (f := 42) (args := #[.pointer (some ⟨rb, 0, none⟩), .slice ak keep.length ck, .int .i64 tn, .int .i64 at']) rfl (by kernel_rfl) (by kernel_rfl) ?_ AllReadyH.nil
  refine UpR_one U lo hi rb m d _ keep tn at' w1.drew (HU1.out.keep (fun _ _ _ => rfl) (fun _ e => e)) (fun k e => by have := HUl.out k e; exact Nat.lt_of_lt_of_le this hz1) (Hk1.out.agree (flat_loc _) (fun _ _ _ => rfl)) (Nat.le_trans hha hz1) (fun k e => Hap.out k (H.out.u k e).1) Hb.out hm HD.out.h128 _ (fun w2 hO hU2 => ?_)
  have hO2' : Only U w1 w2 := hHeld.trans hO
  refine ⟨_, rfl, hO2', ?_⟩
  clear hHeld
  have hHeld := hO2'
  try simp only [Act.put, List.getElem_toArray, List.getElem_cons_succ, List.getElem_cons_zero, List.setIfInBounds_toArray, List.set_cons_zero, List.set_cons_succ]
  refine wpAnyH_take (i := 15) (v := .bool true) rfl (by kernel_rfl) (by kernel_rfl) (by kernel_rfl) (fun _ _ _ h => h) (Or.inl ⟨by rfl, ?_⟩) hHeld ?_
  · intro w' hSw; go_simp
  try simp only [Act.put, List.getElem_toArray, List.getElem_cons_succ, List.getElem_cons_zero, List.setIfInBounds_toArray, List.set_cons_zero, List.set_cons_succ]
  refine wpAnyH_take (i := 16) (v := .bool true) rfl (by kernel_rfl) (by kernel_rfl) (by kernel_rfl) (fun _ _ _ h => h) (Or.inl ⟨by rfl, ?_⟩) hHeld ?_
  · intro w' hSw; go_simp
  try simp only [Act.put, List.getElem_toArray, List.getElem_cons_succ, List.getElem_cons_zero, List.setIfInBounds_toArray, List.set_cons_zero, List.set_cons_succ]
  refine wpAnyH_done (by kernel_rfl) ?_ _
  clear hHeld
  have HO2 := Lib.hid hO2'
  have HU2 := Lib.hid hU2
  clear hO2' hO hU2
  have zd : wa.drew.heap.size = wa.heap.size := rfl
  have zd1 : w1.drew.heap.size = w1.heap.size := rfl
  have hr := HR.out w2 (H.out.on HBa.out HO1.out HO2.out (Below.refl _ _)) ⟨_, _, _, _, H.out.turn HBa.out HO1.out HO2.out (Below.refl _ _) (HD1.out.only HO2.out (fun k e _ e2 => e.elim (fun e => H.out.apart k e2 e) (fun e => absurd (Hlt.out k (H.out.u k e2).1) (by omega)))) HU2.out (fun _ e => e) (fun _ e => e) rfl⟩
  go_wp2_with fail
  first | exact hr | exact fin hr rfl
end Go.Proofs.Ytfmpafheodpfoaa
