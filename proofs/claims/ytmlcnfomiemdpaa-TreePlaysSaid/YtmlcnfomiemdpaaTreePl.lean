/- The walk of TreePlays. (Printed by treepl.py.) -/
import Derived.Test.YtmlcnfomiemdpaaTreePp
import Derived.Deep.CutBlock
import Derived.Deep.DeepCutAuto
namespace Go.Proofs.Ytmlcnfomiemdpaa
open Go.RowKit
attribute [local go_sem ↓] Go.wp_at_zero Go.wp_at_succ
set_option linter.unusedVariables false
set_option linter.unusedSimpArgs false

set_option maxRecDepth 100000 in
set_option maxHeartbeats 8000000 in
theorem TreePlays_any (lo hi : Nat) (l : List OpV) (v : Value) (w : World) (hv : Sl opE 6 lo hi w v l) (hok : ∀ x ∈ l, 0 ≤ x.frm ∧ x.frm ≤ 65535) (hhi : hi ≤ w.heap.size)
    (R : Ending → World → Prop) (hR : ∀ w', Below w.heap.size w w' → R (.returned (.bool true)) w') : Calls Try.prog 6 #[v] w R := by
  have HR := Lib.hid hR
  have Hv := Lib.hid hv
  have Hok := Lib.hid hok
  obtain ⟨ao, cap, rfl, -, -, -, -⟩ := hv.form
  have hr1 := hR w (Below.refl _ _)
  clear hv hR hok
  go_enter Try.func6, Try.ntmps6
  go_wp2_with fail
  refine great_any lo hi l _ w Hv.out _ ?_
  by_cases hgr : (decide (100 < l.length) || l.any OpV.great) = true
  · rw [hgr]
    go_wp2_with fail
    all_goals first | exact hr1 | exact fin hr1 rfl
  rw [Bool.not_eq_true] at hgr
  rw [hgr]
  have hll : l.length ≤ 100 := by
    simp only [Bool.or_eq_false_iff, decide_eq_false_iff_not] at hgr; omega
  have Hgr : Hid (∀ x ∈ l, x.key.length ≤ 5000 ∧ x.value.length ≤ 70000 ∧ x.to.length ≤ 5000) := Lib.hid (fun x hx => by
    simp only [Bool.or_eq_false_iff, decide_eq_false_iff_not] at hgr
    have := List.any_eq_false.1 hgr.2 x hx
    simp only [OpV.great, Bool.or_eq_true, decide_eq_true_eq, not_or] at this
    omega)
  clear hgr hr1
  go_upto_region 5 with fail
  obtain ⟨hB0, hS0⟩ := st_init w _ rfl
  generalize ((w.alloc (.cells #[.pointer none] 52)).alloc (.cells #[.pointer none, .pointer (some ⟨w.heap.size, 0, none⟩)] 25)).alloc (.cells #[.slice none 0 0, .slice none 0 0] 56) = w0 at *
  go_wp2_with fail
  go_loopw [3, 4, 30] (fun t3 t4 t30 wr => ∃ (i : Nat) (ps rs : List Value) (ts : List T), i ≤ l.length ∧ t30 = .int .i64 (i : Int) ∧ Below w.heap.size w wr ∧ St (Av t3 t4) w.heap.size wr t3 t4 ps rs ts i) (fun _ _ t30 _ => l.length - (intOf t30).toNat)
  case atStart => exact ⟨0, _, _, _, Nat.zero_le _, rfl, hB0, hS0⟩
  case round =>
    obtain ⟨i, ps, rs, ts, hi1, rfl, hB, hS⟩ := hrel
    obtain ⟨wo, ewo⟩ : ∃ x, x = wr := ⟨_, rfl⟩
    subst ewo
    have HB := Lib.hid hB
    by_cases hil : i < l.length
    · have i0 : (0 : Int) ≤ (i : Int) := by omega
      have il : (i : Int) < (l.length : Int) := by omega
      have Hvr := Lib.hid (Sl.below Hv.out opE_loc hB hhi)
      obtain ⟨ao', cap', e', -, -, -, hc⟩ := Hvr.out.form
      injection e' with e1 e2 e3
      subst e1 e3
      obtain ⟨b, off, rfl, h1, h2, h3⟩ := hc i hil
      obtain ⟨cs, -, hcs, hE⟩ := h3 i hil
      have hx1 := Hgr.out l[i] (List.getElem_mem hil)
      have hx2 := Hok.out l[i] (List.getElem_mem hil)
      generalize l[i] = x at *
      obtain ⟨kind, frm, key, value, tos, m⟩ := x
      obtain ⟨kv, vv, tv, rfl, hkey, hval, hto⟩ := hE
      simp only at hkey hval hto hx1 hx2
      obtain ⟨ak, ck, rfl, -, -, -, -⟩ := hkey.form
      obtain ⟨av, cv, rfl, -, -, -, -⟩ := hval.form
      obtain ⟨at_, ct, rfl, -, -, -, -⟩ := hto.form
      obtain ⟨f, rfl⟩ := Int.eq_ofNat_of_zero_le hx2.1
      obtain ⟨x0, x1, x2, x3, x4, x5⟩ := hcs.c6
      have hbw : b < wo.heap.size := by have := hB.size; omega
      have hal := alloc_below wo (.cells #[.int .i64 kind, .int .u16 (f : Int), .slice ak key.length ck, .slice av value.length cv, .slice at_ tos.length ct, .int .i64 m] 32)
      have hb6 := Blk.new wo [.int .i64 kind, .int .u16 (f : Int), .slice ak key.length ck, .slice av value.length cv, .slice at_ tos.length ct, .int .i64 m] 32 rfl
      have Hx1 := Lib.hid hx1
      have f0 : (0 : Int) ≤ (f : Int) := by omega
      have f9 : (f : Int) ≤ 65535 := hx2.2
      have Hkey := Lib.hid (Sl.below hkey (flat_loc _) hal (by have := hB.size; omega))
      have Hval := Lib.hid (Sl.below hval (flat_loc _) hal (by have := hB.size; omega))
      have Hto := Lib.hid (Sl.below hto (flat_loc _) hal (by have := hB.size; omega))
      have HS := Lib.hid (hS.below hal)
      have HWO := Lib.hid (show w.heap.size ≤ wo.heap.size from hB.size)
      have Hgl := Lib.hid (show ∀ j, Av u3 u4 j → w.heap.size ≤ j ∧ j < wo.heap.size from fun j e => e.elim (Own.lt hS.o3 j) (Own.lt hS.o4 j))
      replace HB := Lib.hid (HB.out.trans (hal.mono HB.out.size))
      have hhr : hi ≤ wo.heap.size := Nat.le_trans hhi hB.size
      clear hx1 hx2 hcs hc h3 hkey hval hto hS hB Hvr
      go_upto_region 9 with fail
      generalize wo.alloc (.cells #[.int .i64 kind, .int .u16 (f : Int), .slice ak key.length ck, .slice av value.length cv, .slice at_ tos.length ct, .int .i64 m] 32) = wa at *
      clear x0 x1 x2 x3 x4 x5
      have hba := hal.size
      have hb6lt := hb6.lt
      obtain ⟨y60, y61, y62, y63, y64, y65⟩ := hb6.cells.c6
      have Hb6 := Lib.hid hb6
      have hn2 := HS.out.n2
      have hnm := HS.out.nm
      have n0 : (0 : Int) < (ts.length : Int) := by omega
      obtain ⟨k, ek⟩ : ∃ k, k = f % ts.length := ⟨_, rfl⟩
      have hk : k < ts.length := by rw [ek]; exact Nat.mod_lt _ (by omega)
      have k0 : (0 : Int) ≤ (k : Int) := by omega
      have kl : (k : Int) < (ts.length : Int) := by omega
      have hmod : (f : Int) % (ts.length : Int) = (k : Int) := by rw [ek]; rfl
      have hmod2 : (f : Int).tmod (ts.length : Int) = (k : Int) := by rw [ek, Int.tmod_eq_emod_of_nonneg f0]; rfl
      obtain ⟨g3, n3, c3, g4, n4, c4, q, a, c, rfl, rfl, rfl, rfl, b3, s3, b4, s4, y3, y4, ht0, hr0, hg0, hp0, hq0⟩ := HS.out.at k hk
      have Ht0 := Lib.hid ht0
      have Hr0 := Lib.hid hr0
      have Hg0 := Lib.hid hg0
      have Hp0 := Lib.hid hp0
      have Hq0 := Lib.hid hq0
      clear ek hb6 hal ht0 hr0 hg0 hp0 hq0
      go_wp2_with fail
      clear hmod hmod2
      refine wp_region_held_drew (S := fun w' => Below wa.heap.size wa w') (by kernel_rfl) (Below.drew (Below.refl _ _)) (fun hHeld => ?_)
      refine wpAnyH_take (i := 0) (v := .slice (some ⟨g3, 0, none⟩) ts.length c3) rfl (by kernel_rfl) (by kernel_rfl) (by kernel_rfl) (fun _ _ _ h => h) (Or.inl ⟨by rfl, ?_⟩) hHeld ?_
      · intro w' hSw; go_simp
      try simp only [Act.put, List.getElem_toArray, List.getElem_cons_succ, List.getElem_cons_zero, List.setIfInBounds_toArray, List.set_cons_zero, List.set_cons_succ]
      refine wpAnyH_take (i := 1) (v := .int .i64 ((k : Int))) rfl (by kernel_rfl) (by kernel_rfl) (by kernel_rfl) (fun _ _ _ h => h) (Or.inl ⟨by rfl, ?_⟩) hHeld ?_
      · intro w' hSw; go_simp
      try simp only [Act.put, List.getElem_toArray, List.getElem_cons_succ, List.getElem_cons_zero, List.setIfInBounds_toArray, List.set_cons_zero, List.set_cons_succ]
      refine wpAnyH_take (i := 2) (v := .pointer (some ⟨g3, k, none⟩)) rfl (by kernel_rfl) (by kernel_rfl) (by kernel_rfl) (fun _ _ _ h => h) (Or.inl ⟨by rfl, ?_⟩) hHeld ?_
      · intro w' hSw; go_simp
      try simp only [Act.put, List.getElem_toArray, List.getElem_cons_succ, List.getElem_cons_zero, List.setIfInBounds_toArray, List.set_cons_zero, List.set_cons_succ]
      refine wpAnyH_take (i := 3) (v := .pointer q) rfl (by kernel_rfl) (by kernel_rfl) (by kernel_rfl) (fun _ _ _ h => h) (Or.inl ⟨by rfl, ?_⟩) hHeld ?_
      · intro w' hSw; have kx := (World.cell?_of_block (hSw.block g3 s3)).trans y3; go_simp
      try simp only [Act.put, List.getElem_toArray, List.getElem_cons_succ, List.getElem_cons_zero, List.setIfInBounds_toArray, List.set_cons_zero, List.set_cons_succ]
      refine wpAnyH_take (i := 4) (v := .slice (some ⟨g4, 0, none⟩) ts.length c4) rfl (by kernel_rfl) (by kernel_rfl) (by kernel_rfl) (fun _ _ _ h => h) (Or.inl ⟨by rfl, ?_⟩) hHeld ?_
      · intro w' hSw; go_simp
      try simp only [Act.put, List.getElem_toArray, List.getElem_cons_succ, List.getElem_cons_zero, List.setIfInBounds_toArray, List.set_cons_zero, List.set_cons_succ]
      refine wpAnyH_take (i := 5) (v := .int .i64 ((k : Int))) rfl (by kernel_rfl) (by kernel_rfl) (by kernel_rfl) (fun _ _ _ h => h) (Or.inl ⟨by rfl, ?_⟩) hHeld ?_
      · intro w' hSw; go_simp
      try simp only [Act.put, List.getElem_toArray, List.getElem_cons_succ, List.getElem_cons_zero, List.setIfInBounds_toArray, List.set_cons_zero, List.set_cons_succ]
      refine wpAnyH_take (i := 6) (v := .pointer (some ⟨g4, k, none⟩)) rfl (by kernel_rfl) (by kernel_rfl) (by kernel_rfl) (fun _ _ _ h => h) (Or.inl ⟨by rfl, ?_⟩) hHeld ?_
      · intro w' hSw; go_simp
      try simp only [Act.put, List.getElem_toArray, List.getElem_cons_succ, List.getElem_cons_zero, List.setIfInBounds_toArray, List.set_cons_zero, List.set_cons_succ]
      refine wpAnyH_take (i := 7) (v := .agg #[.slice a ts[k].toL.length c]) rfl (by kernel_rfl) (by kernel_rfl) (by kernel_rfl) (fun _ _ _ h => h) (Or.inl ⟨by rfl, ?_⟩) hHeld ?_
      · intro w' hSw; have kx := (World.cell?_of_block (hSw.block g4 s4)).trans y4; go_simp
      try simp only [Act.put, List.getElem_toArray, List.getElem_cons_succ, List.getElem_cons_zero, List.setIfInBounds_toArray, List.set_cons_zero, List.set_cons_succ]
      refine wpAnyH_ready (rs := [8]) (by kernel_rfl) (by simp) ?_
      refine allVal (v := .pointer (some ⟨wa.heap.size, 0, none⟩)) (w' := wa.drew.alloc (.cells #[.slice none 0 0] 56)) rfl (by kernel_rfl) ?_ (hHeld.alloc (Nat.le_refl _) _) ?_ AllReadyH.nil
      · go_simp
      have hHeld2 := hHeld.alloc (Nat.le_refl _) (.cells #[.slice none 0 0] 56)
      clear hHeld
      have hHeld := hHeld2
      clear hHeld2
      try simp only [Act.put, List.getElem_toArray, List.getElem_cons_succ, List.getElem_cons_zero, List.setIfInBounds_toArray, List.set_cons_zero, List.set_cons_succ]
      refine wpAnyH_take (i := 9) (v := .pointer q) rfl (by kernel_rfl) (by kernel_rfl) (by kernel_rfl) (fun _ _ _ h => h) (Or.inl ⟨by rfl, ?_⟩) hHeld ?_
      · intro w' hSw; go_simp
      try simp only [Act.put, List.getElem_toArray, List.getElem_cons_succ, List.getElem_cons_zero, List.setIfInBounds_toArray, List.set_cons_zero, List.set_cons_succ]
      refine wpAnyH_ready (rs := [10]) (by kernel_rfl) (by simp) ?_
      refine allSkip (w' := (wa.drew.alloc (.cells #[.slice none 0 0] 56)).setCell ⟨wa.heap.size, 0, none⟩ (.slice a ts[k].toL.length c)) rfl (by kernel_rfl) ?_ (hHeld.setCell (p := ⟨wa.heap.size, 0, none⟩) (Nat.le_refl _) _) ?_ AllReadyH.nil
      · have kz := (Blk.new wa.drew [.slice none 0 0] 56 rfl).free 0
        go_simp
      try simp only [Act.put, List.getElem_toArray, List.getElem_cons_succ, List.getElem_cons_zero, List.setIfInBounds_toArray, List.set_cons_zero, List.set_cons_succ]
      refine wpAnyH_done (by kernel_rfl) ?_ _
      clear hHeld
      have hb9 : Blk ((wa.drew.alloc (.cells #[.slice none 0 0] 56)).setCell ⟨wa.heap.size, 0, none⟩ (.slice a ts[k].toL.length c)) wa.heap.size [.slice a ts[k].toL.length c] 56 := (Blk.new wa.drew [.slice none 0 0] 56 rfl).set 0 (.slice a ts[k].toL.length c)
      have hB9 : Below wa.heap.size wa ((wa.drew.alloc (.cells #[.slice none 0 0] 56)).setCell ⟨wa.heap.size, 0, none⟩ (.slice a ts[k].toL.length c)) := ((Below.drew (Below.refl _ _)).alloc (Nat.le_refl _) _).setCell (p := ⟨wa.heap.size, 0, none⟩) (Nat.le_refl _) _
      clear y3 y4 y60 y61 y62 y63 y64 y65
      go_upto_region 11 with fail
      generalize (wa.drew.alloc (.cells #[.slice none 0 0] 56)).setCell ⟨wa.heap.size, 0, none⟩ (.slice a ts[k].toL.length c) = wb at *
      have hbb := hB9.size
      have q9b : wa.heap.size < wb.heap.size := hb9.lt
      have Hb9 := Lib.hid hb9
      replace HB := Lib.hid (HB.out.trans (hB9.mono HB.out.size))
      have Hb6b := Lib.hid (Hb6.out.below hB9 hb6lt)
      obtain ⟨y60, y61, y62, y63, y64, y65⟩ := Hb6b.out.cells.c6
      obtain ⟨pk, ck2, wcc, hrunk, hkc, hBc⟩ := copyB (Sl.below Hkey.out (flat_loc _) hB9 (Nat.le_trans hhr hba)) (Nat.le_trans (Nat.le_trans hhr hba) hbb) (by have := Hx1.out.1; omega) (n := wb.heap.size) rfl
      have Hb6c := Lib.hid (Hb6b.out.below hBc Hb6b.out.lt)
      have z63 := Hb6c.out.cells.c6.2.2.2.1
      have hcc := hBc.size
      have hBac := hB9.trans (hBc.mono hbb)
      obtain ⟨pv, cv2, wd, hrunv, hvc, hBd⟩ := copyB (Sl.below Hval.out (flat_loc _) hBac (Nat.le_trans hhr hba)) (by omega) (by have := Hx1.out.2.1; omega) (n := wcc.heap.size) rfl
      have Hb6d := Lib.hid (Hb6c.out.below hBd Hb6c.out.lt)
      have Hb9d := Lib.hid (Blk.below hb9 (hBc.trans (hBd.mono hcc)) hb9.lt)
      have hdd := hBd.size
      have hBad := hBac.trans (hBd.mono (by omega))
      have Hkc := Lib.hid (Own.kept hkc hBd)
      have Hvc := Lib.hid hvc
      have hltk := hkc.lt
      have hltv := hvc.lt
      obtain ⟨X, eX⟩ : ∃ X : Nat → Prop, X = fun j => Value.ownBlock (.slice pk key.length ck2) = some j ∨ Value.ownBlock (.slice pv value.length cv2) = some j := ⟨_, rfl⟩
      have HXa : Hid (∀ j, X j → wb.heap.size ≤ j ∧ j < wd.heap.size) := Lib.hid (fun j hj => by
        rw [eX] at hj
        rcases hj with e | e
        · have := hltk j e; omega
        · have := hltv j e; omega)
      have HXk : Hid (∀ j, Value.ownBlock (.slice pk key.length ck2) = some j → X j) := Lib.hid (fun j hj => by rw [eX]; exact .inl hj)
      have HXv : Hid (∀ j, Value.ownBlock (.slice pv value.length cv2) = some j → X j) := Lib.hid (fun j hj => by rw [eX]; exact .inr hj)
      have HXn : Hid (∀ j, Value.ownBlock (.slice pk key.length ck2) = some j → Value.ownBlock (.slice pv value.length cv2) ≠ some j) := Lib.hid (fun j h1 h2 => by have := hltk j h1; have := hltv j h2; omega)
      have hA1 : ∀ j, (Av (.slice (some ⟨g3, 0, none⟩) ts.length c3) (.slice (some ⟨g4, 0, none⟩) ts.length c4) j ∨ X j) → Av (.slice (some ⟨g3, 0, none⟩) ts.length c3) (.slice (some ⟨g4, 0, none⟩) ts.length c4) j ∨ wa.heap.size ≤ j := fun j hj => hj.imp id (fun hj => by have := (HXa.out j hj).1; omega)
      have hOad : Only (fun _ => False) wa wd := Below.only hBad
      have HS1 := Lib.hid (HS.out.step (A' := fun j => Av (.slice (some ⟨g3, 0, none⟩) ts.length c3) (.slice (some ⟨g4, 0, none⟩) ts.length c4) j ∨ X j) hOad (fun _ e => e.elim) hA1 (fun _ e => .inl e))
      have Ht1 := Lib.hid (Ht0.out.step hOad (fun _ e => e.elim) hA1)
      have Hr1 := Lib.hid (Hr0.out.step hOad (fun _ e => e.elim) hA1)
      have HBd := Lib.hid (HB.out.trans ((hBc.trans (hBd.mono hcc)).mono HB.out.size))
      have HAlt : Hid (∀ j, Av (.slice (some ⟨g3, 0, none⟩) ts.length c3) (.slice (some ⟨g4, 0, none⟩) ts.length c4) j → w.heap.size ≤ j ∧ j < wo.heap.size) := Hgl
      have Hkey2 : Hid (∀ w', Only (Av (.slice (some ⟨g3, 0, none⟩) ts.length c3) (.slice (some ⟨g4, 0, none⟩) ts.length c4)) wd w' → Bytes lo hi w' (.slice ak key.length ck) key) := Lib.hid (fun w' hO =>
        Sl.agree (Sl.below Hkey.out (flat_loc _) hBad (Nat.le_trans hhr hba)) (flat_loc _) (hO.agree (by omega) (fun j hj => .inr (by have := (HAlt.out j hj).1; omega))))
      have Hval2 : Hid (∀ w', Only (Av (.slice (some ⟨g3, 0, none⟩) ts.length c3) (.slice (some ⟨g4, 0, none⟩) ts.length c4)) wd w' → Bytes lo hi w' (.slice av value.length cv) value) := Lib.hid (fun w' hO =>
        Sl.agree (Sl.below Hval.out (flat_loc _) hBad (Nat.le_trans hhr hba)) (flat_loc _) (hO.agree (by omega) (fun j hj => .inr (by have := (HAlt.out j hj).1; omega))))
      have Hto2 : Hid (∀ w', Only (Av (.slice (some ⟨g3, 0, none⟩) ts.length c3) (.slice (some ⟨g4, 0, none⟩) ts.length c4)) wd w' → Bytes lo hi w' (.slice at_ tos.length ct) tos) := Lib.hid (fun w' hO =>
        Sl.agree (Sl.below Hto.out (flat_loc _) hBad (Nat.le_trans hhr hba)) (flat_loc _) (hO.agree (by omega) (fun j hj => .inr (by have := (HAlt.out j hj).1; omega))))
      clear hB9 hb9 hkc hvc hltk hltv eX hA1 hOad hBac hBad hBc hBd HS Ht0 Hr0 HB Hb9 Hb6 Hkey Hval Hto
      have q6b : wo.heap.size < wb.heap.size := by omega
      have q6c : wo.heap.size < wcc.heap.size := by omega
      go_wp2_with (at_builtin; refine AtApp.of ?_)
      refine AtApp.go hrunk rfl rfl rfl rfl ?_
      clear hrunk y60 y61 y62 y63 y64 y65
      go_wp2_with (at_builtin; refine AtApp.of ?_)
      refine AtApp.go hrunv rfl rfl rfl rfl ?_
      clear hrunv z63 Hb6b Hb6c
      have y60 := Hb6d.out.cells.c6.1
      go_upto_block 2 with fail
      go_cut [3, 4, 12, 13, 14, 15] from 61 to 116 (fun t3 t4 t12 t13 t14 t15 wx => ∃ (ps' rs' : List Value) (ts' : List T), Only (Av (.slice (some ⟨g3, 0, none⟩) ts.length c3) (.slice (some ⟨g4, 0, none⟩) ts.length c4)) wd wx ∧ St (fun j => Av t3 t4 j ∨ X j) w.heap.size wx t3 t4 ps' rs' ts' (i + 1) ∧
        ts'[k]? = some ts[k] ∧ ps'[k]? = some (.pointer q) ∧ rs'[k]? = some (.slice a ts[k].toL.length c) ∧ ∀ j, Av t3 t4 j → ¬ X j)
      case first =>
        as_aux_lemma =>
        have HA1lt : Hid (∀ j, (Av (.slice (some ⟨g3, 0, none⟩) ts.length c3) (.slice (some ⟨g4, 0, none⟩) ts.length c4) j ∨ X j) → j < wd.heap.size) := Lib.hid (fun j hj => hj.elim (fun e => by have := (HAlt.out j e).2; omega) (fun e => (HXa.out j e).2))
        have Hkeep : Hid (∀ wx, Below wd.heap.size wd wx → ∃ (ps' rs' : List Value) (ts' : List T), Only (Av (.slice (some ⟨g3, 0, none⟩) ts.length c3) (.slice (some ⟨g4, 0, none⟩) ts.length c4)) wd wx ∧ St (fun j => Av (.slice (some ⟨g3, 0, none⟩) ts.length c3) (.slice (some ⟨g4, 0, none⟩) ts.length c4) j ∨ X j) w.heap.size wx (.slice (some ⟨g3, 0, none⟩) ts.length c3) (.slice (some ⟨g4, 0, none⟩) ts.length c4) ps' rs' ts' (i + 1) ∧
            ts'[k]? = some ts[k] ∧ ps'[k]? = some (.pointer q) ∧ rs'[k]? = some (.slice a ts[k].toL.length c) ∧ ∀ j, Av (.slice (some ⟨g3, 0, none⟩) ts.length c3) (.slice (some ⟨g4, 0, none⟩) ts.length c4) j → ¬ X j) := Lib.hid (fun wx hB => ⟨ps, rs, ts, Below.only hB, (HS1.out.below hB).up, List.getElem?_eq_getElem hk, Hp0.out, Hq0.out, fun j h1 h2 => by have := (HAlt.out j h1).2; have := (HXa.out j h2).1; omega⟩)
        have hlk : ts[k].toL.length ≤ 10000 := by have := T.many_toL ts[k]; have := Hg0.out.many; omega
        have Hlk := Lib.hid hlk
        have HBc : Hid (w.heap.size ≤ wd.heap.size) := Lib.hid HBd.out.size
        have Hpl : Hid (ps.length ≤ 1000 ∧ rs.length ≤ 1000) := Lib.hid (by rw [HS1.out.l3, HS1.out.l4]; omega)
        by_cases h0 : kind = 0
        · subst h0
          go_wp2_with fail
          refine Put_any (fun b => b < wd.heap.size ∧ ¬ (Av (.slice (some ⟨g3, 0, none⟩) ts.length c3) (.slice (some ⟨g4, 0, none⟩) ts.length c4) b ∨ X b)) wd.heap.size wb.heap.size wd.heap.size wcc.heap.size wd.heap.size ts[k] key value _ _ _ wd (fun b h => h.1) (Nat.le_refl _) Ht1.out (OwnB.bytes Hkc.out) (OwnB.bytes Hvc.out) (Nat.le_refl _) (Nat.le_refl _) (by have := Hg0.out.many; omega) _ (fun hbad => ?_) (fun hk1 hv1 w2 b2 hB2 _ ht2 => ?_)
          · have y90 := Hb9d.out.cells.c1
            obtain ⟨-, -, y62, y63, -, -⟩ := Hb6d.out.cells.c6
            have cv1 := str (Hkey2.out wd (Only.refl _ _))
            have cv2x := str (Hval2.out wd (Only.refl _ _))
            have Hbad := Lib.hid hbad
            clear hbad hlk
            go_wp2_with fail
            refine Put_ref 0 wd.heap.size ts[k].toL _ key value wd Hr1.out.here (Nat.le_refl _) Hlk.out Hg0.out.rises _ (fun _ w3 hB3 => ?_) (fun h1 h2 => absurd Hbad.out (by omega))
            have hk3 := Hkeep.out _ (hB3.alloc hB3.size (.cells #[.slice none 0 0] 56))
            clear y90 y62 y63 cv1 cv2x hB3
            go_wp2_with fail
            go_meet
            exact hk3
          · have Hgr2 := Lib.hid (Hg0.out.put key value hk1 hv1)
            have hB2o : Only (Av (.slice (some ⟨g3, 0, none⟩) ts.length c3) (.slice (some ⟨g4, 0, none⟩) ts.length c4)) wd w2 := Below.only hB2
            have y90 := (Hb9d.out.below hB2 Hb9d.out.lt).cells.c1
            obtain ⟨-, -, y62, y63, -, -⟩ := (Hb6d.out.below hB2 Hb6d.out.lt).cells.c6
            have cv1 := str (Hkey2.out w2 hB2o)
            have cv2x := str (Hval2.out w2 hB2o)
            have hs2 := hB2.size
            have HS2 := Lib.hid (HS1.out.below hB2)
            have Ht2 : Hid (TrK (fun j => Av (.slice (some ⟨g3, 0, none⟩) ts.length c3) (.slice (some ⟨g4, 0, none⟩) ts.length c4) j ∨ X j) w2 (ts[k].put key value) (.pointer (some b2))) := Lib.hid (TrK.of ht2 hs2 (fun j hj => ⟨hj, HA1lt.out j hj⟩))
            have Hr2 := Lib.hid (Hr1.out w2 (Below.only hB2))
            have HB2 := Lib.hid hB2
            have Hkv1 := Lib.hid (And.intro hk1 hv1)
            clear hB2 hB2o ht2 hk1 hv1 hlk
            go_wp2_with fail
            refine Put_ref 0 wd.heap.size ts[k].toL _ key value w2 Hr2.out hs2 Hlk.out Hg0.out.rises _ (fun h => absurd Hkv1.out (by omega)) (fun _ _ w3 v2 hB3 ho3 => ?_)
            obtain ⟨a2, e2, rfl⟩ := OwnR.form ho3
            rw [← T.toL_put key value ts[k] Hg0.out.rises] at ho3 ⊢
            obtain ⟨t2, et2⟩ : ∃ t2, t2 = ts[k].put key value := ⟨_, rfl⟩
            rw [← et2] at Ht2 Hgr2 ho3 ⊢
            obtain ⟨L2, eL2⟩ : ∃ L2, L2 = t2.toL := ⟨_, rfl⟩
            have Hr3 : Hid (RsK (fun j => Av (.slice (some ⟨g3, 0, none⟩) ts.length c3) (.slice (some ⟨g4, 0, none⟩) ts.length c4) j ∨ X j) w3 (.slice a2 t2.toL.length e2) t2.toL) := Lib.hid (RsK.of ho3 (fun j hj => Nat.lt_of_lt_of_le (HA1lt.out j hj) hs2))
            rw [← eL2] at ho3 Hr3 ⊢
            have EL2 := Lib.hid eL2
            clear eL2
            have hs3 := hB3.size
            have hal := alloc_below w3 (.cells #[.slice a2 L2.length e2] 56)
            have hb14 := Blk.new w3 [.slice a2 L2.length e2] 56 rfl
            have HZ3 : Hid (wo.heap.size ≤ w3.heap.size) := Lib.hid (by omega)
            have hB2q := hB3.trans (hal.mono hs3)
            have HSq := Lib.hid (HS2.out.below hB2q)
            have Htq := Lib.hid (Ht2.out.step (Below.only (A := fun _ => False) hB2q) (fun _ e => e.elim) (fun _ e => .inl e))
            have Hrq := Lib.hid (Hr3.out.step (Below.only (A := fun _ => False) hal) (fun _ e => e.elim) (fun _ e => .inl e))
            have HBq : Hid (Only (Av (.slice (some ⟨g3, 0, none⟩) ts.length c3) (.slice (some ⟨g4, 0, none⟩) ts.length c4)) wd _) := Lib.hid (Below.only (HB2.out.trans (hB2q.mono hs2)))
            have hBz : w.heap.size ≤ (w3.alloc (.cells #[.slice a2 L2.length e2] 56)).heap.size := by have := HBc.out; have := hal.size; omega
            clear y90 y62 y63 cv1 cv2x hB3 ho3 hal hB2q HS2 Ht2 Hr2 Hr3 et2
            go_upto_region 17 with fail
            generalize w3.alloc (.cells #[.slice a2 L2.length e2] 56) = wq at *
            have Hb14 := Lib.hid hb14
            have HTw := Lib.hid (Two.start HSq.out hBz (w0 := wq.drew) rfl)
            clear hb14 hBz
            go_wp2_with fail
            obtain ⟨xa3, wa2, xa4, wa4, ra1, ra2, ona, ta⟩ := two_a HTw.out (p := .pointer (some b2)) (r := .slice a2 L2.length e2) rfl rfl Hpl.out.1 Hpl.out.2
            obtain ⟨xb3, wb3, xb4, wb4, rb1, rb2, onb, tb⟩ := two_b HTw.out (p := .pointer (some b2)) (r := .slice a2 L2.length e2) rfl rfl Hpl.out.1 Hpl.out.2
            obtain ⟨xc3, wc3, xc4, wc4, rc1, rc2, onc, tc⟩ := two_c HTw.out (p := .pointer (some b2)) (r := .slice a2 L2.length e2) rfl rfl Hpl.out.1 Hpl.out.2
            refine wp_region_held_drew (S := fun w' => Only (Av (.slice (some ⟨g3, 0, none⟩) ts.length c3) (.slice (some ⟨g4, 0, none⟩) ts.length c4)) wq w') (by kernel_rfl) (Only.drew _) (fun hHeld => ?_)
            refine wpAnyH_take (i := 0) (v := .slice (some ⟨g3, 0, none⟩) ts.length c3) rfl (by kernel_rfl) (by kernel_rfl) (by kernel_rfl) (fun _ _ _ h => h) (Or.inl ⟨by rfl, ?_⟩) hHeld ?_
            · intro w' hSw; go_simp
            try simp only [Act.put, List.getElem_toArray, List.getElem_cons_succ, List.getElem_cons_zero, List.setIfInBounds_toArray, List.set_cons_zero, List.set_cons_succ]
            refine wpAnyH_take (i := 1) (v := .pointer (some b2)) rfl (by kernel_rfl) (by kernel_rfl) (by kernel_rfl) (fun _ _ _ h => h) (Or.inl ⟨by rfl, ?_⟩) hHeld ?_
            · intro w' hSw; go_simp
            try simp only [Act.put, List.getElem_toArray, List.getElem_cons_succ, List.getElem_cons_zero, List.setIfInBounds_toArray, List.set_cons_zero, List.set_cons_succ]
            refine wpAnyH_take (i := 4) (v := .slice (some ⟨g4, 0, none⟩) ts.length c4) rfl (by kernel_rfl) (by kernel_rfl) (by kernel_rfl) (fun _ _ _ h => h) (Or.inl ⟨by rfl, ?_⟩) hHeld ?_
            · intro w' hSw; go_simp
            try simp only [Act.put, List.getElem_toArray, List.getElem_cons_succ, List.getElem_cons_zero, List.setIfInBounds_toArray, List.set_cons_zero, List.set_cons_succ]
            refine wpAnyH_take (i := 5) (v := .agg #[.slice a2 L2.length e2]) rfl (by kernel_rfl) (by kernel_rfl) (by kernel_rfl) (fun _ _ _ h => h) (Or.inl ⟨by rfl, ?_⟩) hHeld ?_
            · intro w' hSw; have kx := (hSw.blk Hb14.out (fun e => by have := (HAlt.out _ e).2; have := HZ3.out; omega)).cells.c1; go_simp
            try simp only [Act.put, List.getElem_toArray, List.getElem_cons_succ, List.getElem_cons_zero, List.setIfInBounds_toArray, List.set_cons_zero, List.set_cons_succ]
            refine wpAnyH_ready (rs := [2, 6]) (by kernel_rfl) (by simp) ?_
            clear hHeld
            refine allVal (i := 2) (v := .slice (some ⟨wq.drew.heap.size, 0, none⟩) 1 1) (w' := (wq.drew.alloc (.cells #[.pointer (some b2)] 25))) rfl (by kernel_rfl) ?_ ?_ ?_ (allVal (i := 6) (v := .slice (some ⟨wq.drew.heap.size, 0, none⟩) 1 1) (w' := (wq.drew.alloc (.cells #[.slice a2 L2.length e2] 56))) rfl (by kernel_rfl) ?_ ?_ ?_ AllReadyH.nil)
            · go_simp
            · exact (Only.drew _).trans (Only.alloc _ _)
            · skip
              try simp only [Act.put, List.getElem_toArray, List.getElem_cons_succ, List.getElem_cons_zero, List.setIfInBounds_toArray, List.set_cons_zero, List.set_cons_succ]
              refine wpAnyH_ready (rs := [3, 6]) (by kernel_rfl) (by simp) ?_
              refine allVal (i := 3) (v := xa3) (w' := wa2) rfl (by kernel_rfl) ?_ ?_ ?_ (allVal (i := 6) (v := .slice (some ⟨(wq.drew.alloc (.cells #[.pointer (some b2)] 25)).heap.size, 0, none⟩) 1 1) (w' := ((wq.drew.alloc (.cells #[.pointer (some b2)] 25)).alloc (.cells #[.slice a2 L2.length e2] 56))) rfl (by kernel_rfl) ?_ ?_ ?_ AllReadyH.nil)
              · exact execApp ra1 rfl rfl rfl
              · exact (Only.drew _).trans ona
              · skip
                try simp only [Act.put, List.getElem_toArray, List.getElem_cons_succ, List.getElem_cons_zero, List.setIfInBounds_toArray, List.set_cons_zero, List.set_cons_succ]
                refine wpAnyH_ready (rs := [6]) (by kernel_rfl) (by simp) ?_
                refine allVal (i := 6) (v := .slice (some ⟨wa2.heap.size, 0, none⟩) 1 1) (w' := (wa2.alloc (.cells #[.slice a2 L2.length e2] 56))) rfl (by kernel_rfl) ?_ ?_ ?_ AllReadyH.nil
                · go_simp
                · exact (Only.drew _).trans (ona.trans (Only.alloc _ _))
                try simp only [Act.put, List.getElem_toArray, List.getElem_cons_succ, List.getElem_cons_zero, List.setIfInBounds_toArray, List.set_cons_zero, List.set_cons_succ]
                refine wpAnyH_ready (rs := [7]) (by kernel_rfl) (by simp) ?_
                refine allVal (i := 7) (v := xa4) (w' := wa4) rfl (by kernel_rfl) ?_ ?_ ?_ AllReadyH.nil
                · exact execApp ra2 rfl rfl rfl
                · exact (Only.drew _).trans ta.on
                try simp only [Act.put, List.getElem_toArray, List.getElem_cons_succ, List.getElem_cons_zero, List.setIfInBounds_toArray, List.set_cons_zero, List.set_cons_succ]
                have hHeld : Only (Av (.slice (some ⟨g3, 0, none⟩) ts.length c3) (.slice (some ⟨g4, 0, none⟩) ts.length c4)) wq wa4 := (Only.drew _).trans ta.on
                refine wpAnyH_take (i := 8) (v := xa3) rfl (by kernel_rfl) (by kernel_rfl) (by kernel_rfl) (fun _ _ _ h => h) (Or.inl ⟨by rfl, ?_⟩) hHeld ?_
                · intro w' hSw; go_simp
                try simp only [Act.put, List.getElem_toArray, List.getElem_cons_succ, List.getElem_cons_zero, List.setIfInBounds_toArray, List.set_cons_zero, List.set_cons_succ]
                refine wpAnyH_take (i := 9) (v := xa4) rfl (by kernel_rfl) (by kernel_rfl) (by kernel_rfl) (fun _ _ _ h => h) (Or.inl ⟨by rfl, ?_⟩) hHeld ?_
                · intro w' hSw; go_simp
                try simp only [Act.put, List.getElem_toArray, List.getElem_cons_succ, List.getElem_cons_zero, List.setIfInBounds_toArray, List.set_cons_zero, List.set_cons_succ]
                refine wpAnyH_done (by kernel_rfl) ?_ _
                clear hHeld
                go_wp2_with fail
                go_meet
                exact ⟨_, _, _, HBq.out.trans ((Only.drew _).trans ta.on), ta.fin HSq.out rfl ((Only.drew _).trans ta.on) Htq.out (by have := Hrq.out; rw [EL2.out] at this ⊢; exact this) Hgr2.out, (List.getElem?_append_left hk).trans (List.getElem?_eq_getElem hk), (List.getElem?_append_left (by rw [HS1.out.l3]; exact hk)).trans Hp0.out, (List.getElem?_append_left (by rw [HS1.out.l4]; exact hk)).trans Hq0.out, fun j h1 h2 => by
                  have h3 := (HXa.out j h2).1
                  have h4 := (HXa.out j h2).2
                  rcases h1 with h1 | h1
                  · rcases ta.m3 j h1 with e | e
                    · have := (HAlt.out j (.inl e)).2; omega
                    · have : wq.heap.size ≤ j := e
                      have := HBq.out.size; omega
                  · rcases ta.m4 j h1 with e | e
                    · have := (HAlt.out j (.inr e)).2; omega
                    · have : wq.heap.size ≤ j := e
                      have := HBq.out.size; omega⟩
              · go_simp
              · exact (Only.drew _).trans ((Only.alloc _ _).trans (Only.alloc _ _))
              · skip
                try simp only [Act.put, List.getElem_toArray, List.getElem_cons_succ, List.getElem_cons_zero, List.setIfInBounds_toArray, List.set_cons_zero, List.set_cons_succ]
                refine wpAnyH_ready (rs := [3]) (by kernel_rfl) (by simp) ?_
                refine allVal (i := 3) (v := xb3) (w' := wb3) rfl (by kernel_rfl) ?_ ?_ ?_ AllReadyH.nil
                · exact execApp rb1 rfl rfl rfl
                · exact (Only.drew _).trans onb
                try simp only [Act.put, List.getElem_toArray, List.getElem_cons_succ, List.getElem_cons_zero, List.setIfInBounds_toArray, List.set_cons_zero, List.set_cons_succ]
                refine wpAnyH_ready (rs := [7]) (by kernel_rfl) (by simp) ?_
                refine allVal (i := 7) (v := xb4) (w' := wb4) rfl (by kernel_rfl) ?_ ?_ ?_ AllReadyH.nil
                · exact execApp rb2 rfl rfl rfl
                · exact (Only.drew _).trans tb.on
                try simp only [Act.put, List.getElem_toArray, List.getElem_cons_succ, List.getElem_cons_zero, List.setIfInBounds_toArray, List.set_cons_zero, List.set_cons_succ]
                have hHeld : Only (Av (.slice (some ⟨g3, 0, none⟩) ts.length c3) (.slice (some ⟨g4, 0, none⟩) ts.length c4)) wq wb4 := (Only.drew _).trans tb.on
                refine wpAnyH_take (i := 8) (v := xb3) rfl (by kernel_rfl) (by kernel_rfl) (by kernel_rfl) (fun _ _ _ h => h) (Or.inl ⟨by rfl, ?_⟩) hHeld ?_
                · intro w' hSw; go_simp
                try simp only [Act.put, List.getElem_toArray, List.getElem_cons_succ, List.getElem_cons_zero, List.setIfInBounds_toArray, List.set_cons_zero, List.set_cons_succ]
                refine wpAnyH_take (i := 9) (v := xb4) rfl (by kernel_rfl) (by kernel_rfl) (by kernel_rfl) (fun _ _ _ h => h) (Or.inl ⟨by rfl, ?_⟩) hHeld ?_
                · intro w' hSw; go_simp
                try simp only [Act.put, List.getElem_toArray, List.getElem_cons_succ, List.getElem_cons_zero, List.setIfInBounds_toArray, List.set_cons_zero, List.set_cons_succ]
                refine wpAnyH_done (by kernel_rfl) ?_ _
                clear hHeld
                go_wp2_with fail
                go_meet
                exact ⟨_, _, _, HBq.out.trans ((Only.drew _).trans tb.on), tb.fin HSq.out rfl ((Only.drew _).trans tb.on) Htq.out (by have := Hrq.out; rw [EL2.out] at this ⊢; exact this) Hgr2.out, (List.getElem?_append_left hk).trans (List.getElem?_eq_getElem hk), (List.getElem?_append_left (by rw [HS1.out.l3]; exact hk)).trans Hp0.out, (List.getElem?_append_left (by rw [HS1.out.l4]; exact hk)).trans Hq0.out, fun j h1 h2 => by
                  have h3 := (HXa.out j h2).1
                  have h4 := (HXa.out j h2).2
                  rcases h1 with h1 | h1
                  · rcases tb.m3 j h1 with e | e
                    · have := (HAlt.out j (.inl e)).2; omega
                    · have : wq.heap.size ≤ j := e
                      have := HBq.out.size; omega
                  · rcases tb.m4 j h1 with e | e
                    · have := (HAlt.out j (.inr e)).2; omega
                    · have : wq.heap.size ≤ j := e
                      have := HBq.out.size; omega⟩
            · go_simp
            · exact (Only.drew _).trans (Only.alloc _ _)
            · skip
              try simp only [Act.put, List.getElem_toArray, List.getElem_cons_succ, List.getElem_cons_zero, List.setIfInBounds_toArray, List.set_cons_zero, List.set_cons_succ]
              refine wpAnyH_ready (rs := [2]) (by kernel_rfl) (by simp) ?_
              refine allVal (i := 2) (v := .slice (some ⟨(wq.drew.alloc (.cells #[.slice a2 L2.length e2] 56)).heap.size, 0, none⟩) 1 1) (w' := ((wq.drew.alloc (.cells #[.slice a2 L2.length e2] 56)).alloc (.cells #[.pointer (some b2)] 25))) rfl (by kernel_rfl) ?_ ?_ ?_ AllReadyH.nil
              · go_simp
              · exact (Only.drew _).trans ((Only.alloc _ _).trans (Only.alloc _ _))
              try simp only [Act.put, List.getElem_toArray, List.getElem_cons_succ, List.getElem_cons_zero, List.setIfInBounds_toArray, List.set_cons_zero, List.set_cons_succ]
              refine wpAnyH_ready (rs := [3]) (by kernel_rfl) (by simp) ?_
              refine allVal (i := 3) (v := xc3) (w' := wc3) rfl (by kernel_rfl) ?_ ?_ ?_ AllReadyH.nil
              · exact execApp rc1 rfl rfl rfl
              · exact (Only.drew _).trans onc
              try simp only [Act.put, List.getElem_toArray, List.getElem_cons_succ, List.getElem_cons_zero, List.setIfInBounds_toArray, List.set_cons_zero, List.set_cons_succ]
              refine wpAnyH_ready (rs := [7]) (by kernel_rfl) (by simp) ?_
              refine allVal (i := 7) (v := xc4) (w' := wc4) rfl (by kernel_rfl) ?_ ?_ ?_ AllReadyH.nil
              · exact execApp rc2 rfl rfl rfl
              · exact (Only.drew _).trans tc.on
              try simp only [Act.put, List.getElem_toArray, List.getElem_cons_succ, List.getElem_cons_zero, List.setIfInBounds_toArray, List.set_cons_zero, List.set_cons_succ]
              have hHeld : Only (Av (.slice (some ⟨g3, 0, none⟩) ts.length c3) (.slice (some ⟨g4, 0, none⟩) ts.length c4)) wq wc4 := (Only.drew _).trans tc.on
              refine wpAnyH_take (i := 8) (v := xc3) rfl (by kernel_rfl) (by kernel_rfl) (by kernel_rfl) (fun _ _ _ h => h) (Or.inl ⟨by rfl, ?_⟩) hHeld ?_
              · intro w' hSw; go_simp
              try simp only [Act.put, List.getElem_toArray, List.getElem_cons_succ, List.getElem_cons_zero, List.setIfInBounds_toArray, List.set_cons_zero, List.set_cons_succ]
              refine wpAnyH_take (i := 9) (v := xc4) rfl (by kernel_rfl) (by kernel_rfl) (by kernel_rfl) (fun _ _ _ h => h) (Or.inl ⟨by rfl, ?_⟩) hHeld ?_
              · intro w' hSw; go_simp
              try simp only [Act.put, List.getElem_toArray, List.getElem_cons_succ, List.getElem_cons_zero, List.setIfInBounds_toArray, List.set_cons_zero, List.set_cons_succ]
              refine wpAnyH_done (by kernel_rfl) ?_ _
              clear hHeld
              go_wp2_with fail
              go_meet
              exact ⟨_, _, _, HBq.out.trans ((Only.drew _).trans tc.on), tc.fin HSq.out rfl ((Only.drew _).trans tc.on) Htq.out (by have := Hrq.out; rw [EL2.out] at this ⊢; exact this) Hgr2.out, (List.getElem?_append_left hk).trans (List.getElem?_eq_getElem hk), (List.getElem?_append_left (by rw [HS1.out.l3]; exact hk)).trans Hp0.out, (List.getElem?_append_left (by rw [HS1.out.l4]; exact hk)).trans Hq0.out, fun j h1 h2 => by
                have h3 := (HXa.out j h2).1
                have h4 := (HXa.out j h2).2
                rcases h1 with h1 | h1
                · rcases tc.m3 j h1 with e | e
                  · have := (HAlt.out j (.inl e)).2; omega
                  · have : wq.heap.size ≤ j := e
                    have := HBq.out.size; omega
                · rcases tc.m4 j h1 with e | e
                  · have := (HAlt.out j (.inr e)).2; omega
                  · have : wq.heap.size ≤ j := e
                    have := HBq.out.size; omega⟩
        · by_cases h1 : kind = 1
          · subst h1
            clear h0
            go_wp2_with fail
            refine wp_region_held_drew (S := fun w' => Only (Av (.slice (some ⟨g3, 0, none⟩) ts.length c3) (.slice (some ⟨g4, 0, none⟩) ts.length c4)) wd w') (by kernel_rfl) (Only.drew _) (fun hHeld => ?_)
            refine wpAnyH_take (i := 0) (v := .slice (some ⟨g3, 0, none⟩) ts.length c3) rfl (by kernel_rfl) (by kernel_rfl) (by kernel_rfl) (fun _ _ _ h => h) (Or.inl ⟨by rfl, ?_⟩) hHeld ?_
            · intro w' hSw; go_simp
            try simp only [Act.put, List.getElem_toArray, List.getElem_cons_succ, List.getElem_cons_zero, List.setIfInBounds_toArray, List.set_cons_zero, List.set_cons_succ]
            refine wpAnyH_take (i := 1) (v := .pointer q) rfl (by kernel_rfl) (by kernel_rfl) (by kernel_rfl) (fun _ _ _ h => h) (Or.inl ⟨by rfl, ?_⟩) hHeld ?_
            · intro w' hSw; go_simp
            try simp only [Act.put, List.getElem_toArray, List.getElem_cons_succ, List.getElem_cons_zero, List.setIfInBounds_toArray, List.set_cons_zero, List.set_cons_succ]
            refine wpAnyH_take (i := 2) (v := .slice pk key.length ck2) rfl (by kernel_rfl) (by kernel_rfl) (by kernel_rfl) (fun _ _ _ h => h) (Or.inl ⟨by rfl, ?_⟩) hHeld ?_
            · intro w' hSw; go_simp
            try simp only [Act.put, List.getElem_toArray, List.getElem_cons_succ, List.getElem_cons_zero, List.setIfInBounds_toArray, List.set_cons_zero, List.set_cons_succ]
            refine wpAnyH_take (i := 6) (v := .slice (some ⟨g4, 0, none⟩) ts.length c4) rfl (by kernel_rfl) (by kernel_rfl) (by kernel_rfl) (fun _ _ _ h => h) (Or.inl ⟨by rfl, ?_⟩) hHeld ?_
            · intro w' hSw; go_simp
            try simp only [Act.put, List.getElem_toArray, List.getElem_cons_succ, List.getElem_cons_zero, List.setIfInBounds_toArray, List.set_cons_zero, List.set_cons_succ]
            refine wpAnyH_take (i := 7) (v := .agg #[.slice a ts[k].toL.length c]) rfl (by kernel_rfl) (by kernel_rfl) (by kernel_rfl) (fun _ _ _ h => h) (Or.inl ⟨by rfl, ?_⟩) hHeld ?_
            · intro w' hSw; have kx := (hSw.blk Hb9d.out (fun e => by have := (HAlt.out _ e).2; omega)).cells.c1; go_simp
            try simp only [Act.put, List.getElem_toArray, List.getElem_cons_succ, List.getElem_cons_zero, List.setIfInBounds_toArray, List.set_cons_zero, List.set_cons_succ]
            refine wpAnyH_take (i := 8) (v := .pointer (some ⟨wo.heap.size, 2, none⟩)) rfl (by kernel_rfl) (by kernel_rfl) (by kernel_rfl) (fun _ _ _ h => h) (Or.inl ⟨by rfl, ?_⟩) hHeld ?_
            · intro w' hSw; go_simp
            try simp only [Act.put, List.getElem_toArray, List.getElem_cons_succ, List.getElem_cons_zero, List.setIfInBounds_toArray, List.set_cons_zero, List.set_cons_succ]
            refine wpAnyH_take (i := 9) (v := .slice ak key.length ck) rfl (by kernel_rfl) (by kernel_rfl) (by kernel_rfl) (fun _ _ _ h => h) (Or.inl ⟨by rfl, ?_⟩) hHeld ?_
            · intro w' hSw; have kx := (hSw.blk Hb6d.out (fun e => by have := (HAlt.out _ e).2; omega)).cells.c6.2.2.1; go_simp
            try simp only [Act.put, List.getElem_toArray, List.getElem_cons_succ, List.getElem_cons_zero, List.setIfInBounds_toArray, List.set_cons_zero, List.set_cons_succ]
            refine wpAnyH_take (i := 10) (v := .string ⟨key.toArray⟩) rfl (by kernel_rfl) (by kernel_rfl) (by kernel_rfl) (fun _ _ _ h => h) (Or.inl ⟨by rfl, ?_⟩) hHeld ?_
            · intro w' hSw; have kx := str (Hkey2.out w' hSw); go_simp
            try simp only [Act.put, List.getElem_toArray, List.getElem_cons_succ, List.getElem_cons_zero, List.setIfInBounds_toArray, List.set_cons_zero, List.set_cons_succ]
            refine wpAnyH_ready (rs := [3]) (by kernel_rfl) (by simp) ?_
            refine allCall (f := 23) (args := #[.pointer q, .slice pk key.length ck2]) rfl (by kernel_rfl) (by kernel_rfl) ?_ AllReadyH.nil
            refine Cut_any (fun b => b < wd.heap.size ∧ ¬ (Av (.slice (some ⟨g3, 0, none⟩) ts.length c3) (.slice (some ⟨g4, 0, none⟩) ts.length c4) b ∨ X b)) wd.heap.size wb.heap.size wd.heap.size ts[k] key _ _ wd.drew (fun b h => h.1) (Nat.le_refl _) (show Tr _ _ _ _ _ from Ht1.out.step (A2 := fun _ => False) (Only.drew _) (fun _ e => e.elim) (fun _ e => .inl e)) (OwnB.bytes (Own.same Hkc.out (fun _ _ => rfl))) (Nat.le_refl _) (by have := Hg0.out.many; omega) _ (fun w2 b2 hB2 _ ht2 => ?_)
            have hB2' : Below wd.heap.size wd w2 := (Below.drew (Below.refl _ _)).trans hB2
            have hHeld2 : Only (Av (.slice (some ⟨g3, 0, none⟩) ts.length c3) (.slice (some ⟨g4, 0, none⟩) ts.length c4)) wd w2 := Below.only hB2'
            have hs2 := hB2'.size
            have HS2 := Lib.hid (HS1.out.below hB2')
            obtain ⟨t2, et2⟩ : ∃ t2, t2 = ts[k].cut key := ⟨_, rfl⟩
            have Ht2 : Hid (TrK (fun j => Av (.slice (some ⟨g3, 0, none⟩) ts.length c3) (.slice (some ⟨g4, 0, none⟩) ts.length c4) j ∨ X j) w2 t2 (.pointer (some b2))) := Lib.hid (TrK.of (by rw [et2]; exact ht2) hs2 (fun j hj => ⟨hj, HA1lt.out j hj⟩))
            have Hgr2 : Hid (Gr t2 (i + 1)) := Lib.hid (by rw [et2]; exact (Hg0.out.cut key).mono (Nat.le_succ _))
            have Het2 : Hid (t2.toL = delL key ts[k].toL) := Lib.hid (by rw [et2]; exact T.toL_cut key ts[k] Hg0.out.rises)
            have HT2 := Lib.hid (Two.start HS2.out (by have := HBc.out; omega) (w0 := w2) rfl)
            refine ⟨_, rfl, hHeld2, ?_⟩
            clear hHeld hB2 ht2 hB2' et2
            have hHeld := hHeld2
            clear hHeld2
            obtain ⟨x3, w4, run3, ht4, -⟩ := (HT2.out.below (alloc_below w2 (.cells #[.pointer (some b2)] 25))).ap3 (CellsAt.newAt w2 [.pointer (some b2)] _ rfl) rfl Hpl.out.1
            have HT4 := Lib.hid ht4
            have hs4 := ht4.on.size
            clear ht4
            try simp only [Act.put, List.getElem_toArray, List.getElem_cons_succ, List.getElem_cons_zero, List.setIfInBounds_toArray, List.set_cons_zero, List.set_cons_succ]
            refine wpAnyH_ready (rs := [4]) (by kernel_rfl) (by simp) ?_
            refine allVal (i := 4) (v := .slice (some ⟨w2.heap.size, 0, none⟩) 1 1) (w' := (w2.alloc (.cells #[.pointer (some b2)] 25))) rfl (by kernel_rfl) ?_ ?_ ?_ AllReadyH.nil
            · go_simp
            · exact hHeld.trans (Only.alloc _ _)
            try simp only [Act.put, List.getElem_toArray, List.getElem_cons_succ, List.getElem_cons_zero, List.setIfInBounds_toArray, List.set_cons_zero, List.set_cons_succ]
            refine wpAnyH_ready (rs := [5]) (by kernel_rfl) (by simp) ?_
            refine allVal (i := 5) (v := x3) (w' := w4) rfl (by kernel_rfl) ?_ ?_ ?_ AllReadyH.nil
            · exact execApp run3 rfl rfl rfl
            · exact hHeld.trans HT4.out.on
            have hHeld4 := hHeld.trans HT4.out.on
            clear run3
            try simp only [Act.put, List.getElem_toArray, List.getElem_cons_succ, List.getElem_cons_zero, List.setIfInBounds_toArray, List.set_cons_zero, List.set_cons_succ]
            refine wpAnyH_ready (rs := [11]) (by kernel_rfl) (by simp) ?_
            refine allCall (f := 24) (args := #[.agg #[.slice a ts[k].toL.length c], .string ⟨key.toArray⟩]) rfl (by kernel_rfl) (by kernel_rfl) ?_ AllReadyH.nil
            refine Cut_ref 0 wd.heap.size ts[k].toL _ key w4 (Hr1.out w4 (hHeld4.mono (fun _ _ e => .inl e))) (by omega) Hlk.out _ (fun w5 v5 hB5 ho5 => ?_)
            obtain ⟨a2, e2, rfl⟩ := OwnR.form ho5
            rw [← Het2.out] at ho5 ⊢
            have Hr5 : Hid (RsK (fun j => Av x3 (.slice (some ⟨g4, 0, none⟩) ts.length c4) j ∨ X j) w5 (.slice a2 t2.toL.length e2) t2.toL) := Lib.hid (RsK.of ho5 (fun j hj => by
              rcases hj with (e | e) | e
              · exact (Own.lt HT4.out.o3 j e).2
              · exact (Own.lt HT4.out.o4 j e).2
              · have := (HXa.out j e).2; omega))
            have hHeld5 := hHeld4.trans (Below.only hB5)
            have hs5 := hB5.size
            obtain ⟨x4, w7, run4, ht7, hO7, hm7⟩ := ((HT4.out.below hB5).below (alloc_below w5 (.cells #[.slice a2 t2.toL.length e2] 56))).ap4 (CellsAt.newAt w5 [.slice a2 t2.toL.length e2] _ rfl) rfl Hpl.out.2
            have HT7 := Lib.hid ht7
            have HO7 := Lib.hid hO7
            have Hm7 := Lib.hid hm7
            refine ⟨_, rfl, hHeld5, ?_⟩
            clear hB5 ho5 ht7 hO7 hm7
            try simp only [Act.put, List.getElem_toArray, List.getElem_cons_succ, List.getElem_cons_zero, List.setIfInBounds_toArray, List.set_cons_zero, List.set_cons_succ]
            refine wpAnyH_ready (rs := [12]) (by kernel_rfl) (by simp) ?_
            refine allVal (i := 12) (v := .slice (some ⟨w5.heap.size, 0, none⟩) 1 1) (w' := (w5.alloc (.cells #[.slice a2 t2.toL.length e2] 56))) rfl (by kernel_rfl) ?_ ?_ ?_ AllReadyH.nil
            · go_simp
            · exact hHeld5.trans (Only.alloc _ _)
            try simp only [Act.put, List.getElem_toArray, List.getElem_cons_succ, List.getElem_cons_zero, List.setIfInBounds_toArray, List.set_cons_zero, List.set_cons_succ]
            refine wpAnyH_ready (rs := [13]) (by kernel_rfl) (by simp) ?_
            refine allVal (i := 13) (v := x4) (w' := w7) rfl (by kernel_rfl) ?_ ?_ ?_ AllReadyH.nil
            · exact execApp run4 rfl rfl rfl
            · exact hHeld.trans HT7.out.on
            try simp only [Act.put, List.getElem_toArray, List.getElem_cons_succ, List.getElem_cons_zero, List.setIfInBounds_toArray, List.set_cons_zero, List.set_cons_succ]
            have hHeld7 := hHeld.trans HT7.out.on
            clear hHeld run4
            have hHeld := hHeld7
            refine wpAnyH_take (i := 14) (v := x3) rfl (by kernel_rfl) (by kernel_rfl) (by kernel_rfl) (fun _ _ _ h => h) (Or.inl ⟨by rfl, ?_⟩) hHeld ?_
            · intro w' hSw; go_simp
            try simp only [Act.put, List.getElem_toArray, List.getElem_cons_succ, List.getElem_cons_zero, List.setIfInBounds_toArray, List.set_cons_zero, List.set_cons_succ]
            refine wpAnyH_take (i := 15) (v := x4) rfl (by kernel_rfl) (by kernel_rfl) (by kernel_rfl) (fun _ _ _ h => h) (Or.inl ⟨by rfl, ?_⟩) hHeld ?_
            · intro w' hSw; go_simp
            try simp only [Act.put, List.getElem_toArray, List.getElem_cons_succ, List.getElem_cons_zero, List.setIfInBounds_toArray, List.set_cons_zero, List.set_cons_succ]
            refine wpAnyH_done (by kernel_rfl) ?_ _
            clear hHeld
            clear hHeld4 hHeld5
            go_wp2_with fail
            have hst : St (fun j => Av x3 x4 j ∨ X j) w.heap.size w7 x3 x4 (ps ++ [.pointer (some b2)]) (rs ++ [.slice a2 t2.toL.length e2]) (ts ++ [t2]) (i + 1) := by
              have ha : ∀ j, (Av x3 x4 j ∨ X j) → (Av (.slice (some ⟨g3, 0, none⟩) ts.length c3) (.slice (some ⟨g4, 0, none⟩) ts.length c4) j ∨ X j) ∨ w2.heap.size ≤ j := fun j hj => by
                rcases hj with (e | e) | e
                · exact (HT7.out.m3 j e).imp (fun e => .inl (.inl e)) id
                · exact (HT7.out.m4 j e).imp (fun e => .inl (.inr e)) id
                · exact .inl (.inr e)
              refine HS2.out.grow HT7.out.on HT7.out.o3 HT7.out.o4 HT7.out.ne ha (fun _ e => .inl e) (Ht2.out.step HT7.out.on (fun _ e => .inl e) ha) (Hr5.out.grown ((Only.alloc _ _).trans (HO7.out.mono (fun j _ e => .inl (.inr e)))) (fun j hj => ?_)) Hgr2.out
              rcases hj with (e | e) | e
              · exact .inl (.inl (.inl e))
              · rcases Hm7.out j e with e | e
                · exact .inl (.inl (.inr e))
                · exact .inr (by simp at e; omega)
              · exact .inl (.inr e)
            go_meet
            exact ⟨_, _, _, hHeld7, hst, (List.getElem?_append_left hk).trans (List.getElem?_eq_getElem hk), (List.getElem?_append_left (by rw [HS1.out.l3]; exact hk)).trans Hp0.out, (List.getElem?_append_left (by rw [HS1.out.l4]; exact hk)).trans Hq0.out, fun j h1 h2 => by
              have h3 := (HXa.out j h2).1
              have h4 := (HXa.out j h2).2
              rcases h1 with h1 | h1
              · rcases HT7.out.m3 j h1 with e | e
                · have := (HAlt.out j (.inl e)).2; omega
                · omega
              · rcases HT7.out.m4 j h1 with e | e
                · have := (HAlt.out j (.inr e)).2; omega
                · omega⟩
          · have hk3 := Hkeep.out wd (Below.refl _ _)
            go_wp2_with fail
            go_meet
            exact hk3
      case rest =>
        as_aux_lemma =>
        obtain ⟨ps', rs', ts', hOx, hSx, hk1, hk2, hk3, hXd⟩ := hcut
        obtain ⟨we, ewe⟩ : ∃ x, x = wc := ⟨_, rfl⟩
        subst ewe
        have NA : ∀ j, wo.heap.size ≤ j → ¬ Av (.slice (some ⟨g3, 0, none⟩) ts.length c3) (.slice (some ⟨g4, 0, none⟩) ts.length c4) j := fun j h1 h2 => by have := (HAlt.out j h2).2; omega
        have Hk1 := Lib.hid hk1
        have Hk2 := Lib.hid hk2
        have Hk3 := Lib.hid hk3
        have HXd := Lib.hid hXd
        have HSe := Lib.hid hSx
        have hKe : OwnB wb.heap.size we (.slice pk key.length ck2) key := Own.same Hkc.out (fun g e => hOx.block g (HXa.out g (HXk.out g e)).2 (NA g (by have := (HXa.out g (HXk.out g e)).1; omega)))
        have hVe : OwnB wcc.heap.size we (.slice pv value.length cv2) value := Own.same Hvc.out (fun g e => hOx.block g (HXa.out g (HXv.out g e)).2 (NA g (by have := (HXa.out g (HXv.out g e)).1; omega)))
        have Hb6e := Lib.hid (hOx.blk Hb6d.out (NA _ (Nat.le_refl _)))
        have Hb9e := Lib.hid (hOx.blk Hb9d.out (NA _ hba))
        have HBe := Lib.hid (HBd.out.trans (hOx.below HBd.out.size (fun j e => (HAlt.out j e).1)))
        have Hke := Lib.hid (Hkey2.out we hOx)
        have Hte := Lib.hid (Hto2.out we hOx)
        have HVe := Lib.hid hVe
        have HKe := Lib.hid hKe
        have hlk1 : key.length ≤ 5000 := Hx1.out.1
        have hlv1 : value.length ≤ 70000 := Hx1.out.2.1
        have hww : w.heap.size ≤ wo.heap.size := HWO.out
        clear hOx hSx hk1 hk2 hk3 hXd hKe hVe NA
        go_wp2_with fail
        go_loopw [119] (fun tj wr => ∃ j : Nat, j ≤ key.length ∧ tj = .int .i64 (j : Int) ∧ Only (fun g => Value.ownBlock (.slice pk key.length ck2) = some g) we wr ∧ Some8 wb.heap.size key.length (.slice pk key.length ck2) wr) (fun tj _ => key.length - (intOf tj).toNat)
        case atStart => exact ⟨0, Nat.zero_le _, rfl, Only.refl _ _, ⟨_, rfl, HKe.out⟩⟩
        case round =>
          obtain ⟨j, hj1, rfl, hOj, h8⟩ := hrel
          have HOj := Lib.hid hOj
          have j0 : (0 : Int) ≤ (j : Int) := by omega
          clear hOj
          by_cases hjl : j < key.length
          · have jl : (j : Int) < (key.length : Int) := by omega
            have j9 : (j : Int) + 1 ≤ 9223372036854775807 := by omega
            obtain ⟨gj, xj, e1, -, cj, fj, h8'⟩ := h8.at j hjl
            subst e1
            have H8 := Lib.hid h8'
            have hx8 := add8 xj
            clear h8 h8'
            go_wp2_with fail
            go_roundw
            case rel => exact ⟨j + 1, by omega, by go_num, HOj.out.trans (Only.setCell _ (p := ⟨gj, j, none⟩) (by rfl) _), H8.out⟩
            case measure => first | (simp [intOf]; done) | (simp [intOf]; omega)
          · have HOf := Lib.hid (show Only (fun g => Value.ownBlock (.slice pk key.length ck2) = some g) we wr from HOj.out)
            obtain ⟨wf, ewf⟩ : ∃ x, x = wr := ⟨_, rfl⟩
            subst ewf
            have hVf : OwnB wcc.heap.size wf (.slice pv value.length cv2) value := Own.same HVe.out (fun g e => HOf.out.block g (Own.lt HVe.out g e).2 (fun e2 => HXn.out g e2 e))
            have HVf := Lib.hid hVf
            clear hVf h8 HOj
            go_wp2_with fail
            go_loopw [133] (fun tj wr => ∃ j : Nat, j ≤ value.length ∧ tj = .int .i64 (j : Int) ∧ Only (fun g => Value.ownBlock (.slice pv value.length cv2) = some g) wf wr ∧ Some8 wcc.heap.size value.length (.slice pv value.length cv2) wr) (fun tj _ => value.length - (intOf tj).toNat)
            case atStart => exact ⟨0, Nat.zero_le _, rfl, Only.refl _ _, ⟨_, rfl, HVf.out⟩⟩
            case round =>
              obtain ⟨j, hj1, rfl, hOj, h8⟩ := hrel
              have HOj := Lib.hid hOj
              have j0 : (0 : Int) ≤ (j : Int) := by omega
              clear hOj
              by_cases hjl : j < value.length
              · have jl : (j : Int) < (value.length : Int) := by omega
                have j9 : (j : Int) + 1 ≤ 9223372036854775807 := by omega
                obtain ⟨gj, xj, e1, -, cj, fj, h8'⟩ := h8.at j hjl
                subst e1
                have H8 := Lib.hid h8'
                have hx8 := add8 xj
                clear h8 h8'
                go_wp2_with fail
                go_roundw
                case rel => exact ⟨j + 1, by omega, by go_num, HOj.out.trans (Only.setCell _ (p := ⟨gj, j, none⟩) (by rfl) _), H8.out⟩
                case measure => first | (simp [intOf]; done) | (simp [intOf]; omega)
              · have hOg : Only X we wr := (HOf.out.mono (fun j _ e => HXk.out j e)).trans (HOj.out.mono (fun j _ e => HXv.out j e))
                obtain ⟨wg, ewg⟩ : ∃ x, x = wr := ⟨_, rfl⟩
                subst ewg
                have HSg := Lib.hid (HSe.out.step (A' := fun j => Av u3 u4 j ∨ X j) hOg (fun j e => ⟨.inr e, fun e2 => HXd.out j (.inl e2) e, fun e2 => HXd.out j (.inr e2) e⟩) (fun _ e => .inl e) (fun _ e => .inl e))
                have Hb6g := Lib.hid (hOg.blk Hb6e.out (fun e => by have := (HXa.out _ e).1; omega))
                have Hb9g := Lib.hid (hOg.blk Hb9e.out (fun e => by have := (HXa.out _ e).1; omega))
                have HBg := Lib.hid (HBe.out.trans (hOg.below HBe.out.size (fun j e => by have := (HXa.out j e).1; omega)))
                have hzg := HBg.out.size
                have Hkg : Hid (∀ w', Below wg.heap.size wg w' → Bytes lo hi w' (.slice ak key.length ck) key) := Lib.hid (fun w' hB => Sl.below (Sl.agree Hke.out (flat_loc _) (hOg.agree (by have := HBe.out.size; omega) (fun j hj => .inr (by have := (HXa.out j hj).1; omega)))) (flat_loc _) hB (by omega))
                have Htg : Hid (∀ w', Below wg.heap.size wg w' → Bytes lo hi w' (.slice at_ tos.length ct) tos) := Lib.hid (fun w' hB => Sl.below (Sl.agree Hte.out (flat_loc _) (hOg.agree (by have := HBe.out.size; omega) (fun j hj => .inr (by have := (HXa.out j hj).1; omega)))) (flat_loc _) hB (by omega))
                clear hOg HOf HOj h8
                have hn2' := HSg.out.n2
                have hnm' := HSg.out.nm
                obtain ⟨z, ez⟩ : ∃ z, z = ts'.length - 1 := ⟨_, rfl⟩
                have hzl : z < ts'.length := by omega
                have hz1 : (ts'.length : Int) - 1 = (z : Int) := by omega
                have z0 : (0 : Int) ≤ (z : Int) := by omega
                have zl : (z : Int) < (ts'.length : Int) := by omega
                have hkl : k < ts'.length := (List.getElem?_eq_some_iff.1 Hk1.out).1
                have hkt : ts'[k] = ts[k] := (List.getElem?_eq_some_iff.1 Hk1.out).2
                have hkp : k < ps'.length := (List.getElem?_eq_some_iff.1 Hk2.out).1
                have hkpe : ps'[k] = .pointer q := (List.getElem?_eq_some_iff.1 Hk2.out).2
                have hkr : k < rs'.length := (List.getElem?_eq_some_iff.1 Hk3.out).1
                have hkre : rs'[k] = .slice a ts[k].toL.length c := (List.getElem?_eq_some_iff.1 Hk3.out).2
                have htk := HSg.out.tr k hkl hkp
                have hrk := HSg.out.ls k hkl hkr
                have hgk := HSg.out.gr k hkl
                rw [hkt, hkpe] at htk
                rw [hkt, hkre] at hrk
                rw [hkt] at hgk
                obtain ⟨G3, N3, C3, G4, N4, C4, qz, az, cz, rfl, rfl, rfl, rfl, B3, S3, B4, S4, Y3, Y4, htz, hrz, hgz, hpz, hqz⟩ := HSg.out.at z hzl
                generalize ts'[z] = tz at *
                have Htk := Lib.hid htk
                have Hrk := Lib.hid hrk
                have Hgk := Lib.hid hgk
                have Htz := Lib.hid htz
                have Hrz := Lib.hid hrz
                have Hgz := Lib.hid hgz
                have Hlk : Hid (ts[k].toL.length ≤ 10000) := Lib.hid (by have := T.many_toL ts[k]; have := hgk.many; omega)
                have Hlz : Hid (tz.toL.length ≤ 10000) := Lib.hid (by have := T.many_toL tz; have := hgz.many; omega)
                clear htk hrk hgk htz hrz hgz hpz hqz hkt hkpe hkre ez
                go_wp2_with fail
                clear hz1
                refine wp_region_held_drew (S := fun w' => Below wg.heap.size wg w') (by kernel_rfl) (Below.drew (Below.refl _ _)) (fun hHeld => ?_)
                refine wpAnyH_take (i := 0) (v := .pointer q) rfl (by kernel_rfl) (by kernel_rfl) (by kernel_rfl) (fun _ _ _ h => h) (Or.inl ⟨by rfl, ?_⟩) hHeld ?_
                · intro w' hSw; go_simp
                try simp only [Act.put, List.getElem_toArray, List.getElem_cons_succ, List.getElem_cons_zero, List.setIfInBounds_toArray, List.set_cons_zero, List.set_cons_succ]
                refine wpAnyH_take (i := 1) (v := .agg #[.slice a ts[k].toL.length c]) rfl (by kernel_rfl) (by kernel_rfl) (by kernel_rfl) (fun _ _ _ h => h) (Or.inl ⟨by rfl, ?_⟩) hHeld ?_
                · intro w' hSw; have kx := (Hb9g.out.below hSw Hb9g.out.lt).cells.c1; go_simp
                try simp only [Act.put, List.getElem_toArray, List.getElem_cons_succ, List.getElem_cons_zero, List.setIfInBounds_toArray, List.set_cons_zero, List.set_cons_succ]
                refine wpAnyH_take (i := 2) (v := .agg #[.int .i64 kind, .int .u16 (f : Int), .slice ak key.length ck, .slice av value.length cv, .slice at_ tos.length ct, .int .i64 m]) rfl (by kernel_rfl) (by kernel_rfl) (by kernel_rfl) (fun _ _ _ h => h) (Or.inl ⟨by rfl, ?_⟩) hHeld ?_
                · intro w' hSw; obtain ⟨k0, k1, k2, k3, k4, k5⟩ := (Hb6g.out.below hSw Hb6g.out.lt).cells.c6; go_simp
                try simp only [Act.put, List.getElem_toArray, List.getElem_cons_succ, List.getElem_cons_zero, List.setIfInBounds_toArray, List.set_cons_zero, List.set_cons_succ]
                refine wpAnyH_ready (rs := [3]) (by kernel_rfl) (by simp) ?_
                refine allCall (f := 25) (args := #[.pointer q, .agg #[.slice a ts[k].toL.length c], .agg #[.int .i64 kind, .int .u16 (f : Int), .slice ak key.length ck, .slice av value.length cv, .slice at_ tos.length ct, .int .i64 m]]) rfl (by kernel_rfl) (by kernel_rfl) ?_ AllReadyH.nil
                refine tells_any 0 wg.heap.size lo hi lo hi ts[k] ts[k].toL key tos kind (f : Int) m q _ _ _ _ wg.drew Hgk.out rfl (by omega) (Htk.out.step (A' := (fun j => Av (.slice (some ⟨G3, 0, none⟩) ts'.length C3) (.slice (some ⟨G4, 0, none⟩) ts'.length C4) j ∨ X j)) (Below.only (A := fun _ => False) hHeld) (fun _ e => e.elim) (fun _ e => .inl e)).nn (Hrk.out _ (Below.only hHeld)) hHeld.size (Hkg.out _ hHeld) (by have := hHeld.size; omega) (Htg.out _ hHeld) (by have := hHeld.size; omega) ⟨_, _, _, rfl⟩ _ (fun wt1 hBt => ?_)
                have hH2 : Below wg.heap.size wg wt1 := hHeld.trans (hBt.mono hHeld.size)
                refine ⟨_, rfl, hH2, ?_⟩
                clear hHeld hBt
                have hHeld := hH2
                clear hH2
                try simp only [Act.put, List.getElem_toArray, List.getElem_cons_succ, List.getElem_cons_zero, List.setIfInBounds_toArray, List.set_cons_zero, List.set_cons_succ]
                refine wpAnyH_take (i := 4) (v := .bool false) rfl (by kernel_rfl) (by kernel_rfl) (by kernel_rfl) (fun _ _ _ h => h) (Or.inl ⟨by rfl, ?_⟩) hHeld ?_
                · intro w' hSw; go_simp
                try simp only [Act.put, List.getElem_toArray, List.getElem_cons_succ, List.getElem_cons_zero, List.setIfInBounds_toArray, List.set_cons_zero, List.set_cons_succ]
                refine wpAnyH_take (i := 5) (v := .bool false) rfl (by kernel_rfl) (by kernel_rfl) (by kernel_rfl) (fun _ _ _ h => h) (Or.inl ⟨by rfl, ?_⟩) hHeld ?_
                · intro w' hSw; go_simp
                try simp only [Act.put, List.getElem_toArray, List.getElem_cons_succ, List.getElem_cons_zero, List.setIfInBounds_toArray, List.set_cons_zero, List.set_cons_succ]
                refine wpAnyH_take (i := 6) (v := .slice (some ⟨G3, 0, none⟩) ts'.length C3) rfl (by kernel_rfl) (by kernel_rfl) (by kernel_rfl) (fun _ _ _ h => h) (Or.inl ⟨by rfl, ?_⟩) hHeld ?_
                · intro w' hSw; go_simp
                try simp only [Act.put, List.getElem_toArray, List.getElem_cons_succ, List.getElem_cons_zero, List.setIfInBounds_toArray, List.set_cons_zero, List.set_cons_succ]
                refine wpAnyH_take (i := 7) (v := .int .i64 ((z : Int))) rfl (by kernel_rfl) (by kernel_rfl) (by kernel_rfl) (fun _ _ _ h => h) (Or.inl ⟨by rfl, ?_⟩) hHeld ?_
                · intro w' hSw; go_simp
                try simp only [Act.put, List.getElem_toArray, List.getElem_cons_succ, List.getElem_cons_zero, List.setIfInBounds_toArray, List.set_cons_zero, List.set_cons_succ]
                refine wpAnyH_take (i := 8) (v := .pointer (some ⟨G3, z, none⟩)) rfl (by kernel_rfl) (by kernel_rfl) (by kernel_rfl) (fun _ _ _ h => h) (Or.inl ⟨by rfl, ?_⟩) hHeld ?_
                · intro w' hSw; go_simp
                try simp only [Act.put, List.getElem_toArray, List.getElem_cons_succ, List.getElem_cons_zero, List.setIfInBounds_toArray, List.set_cons_zero, List.set_cons_succ]
                refine wpAnyH_take (i := 9) (v := .pointer qz) rfl (by kernel_rfl) (by kernel_rfl) (by kernel_rfl) (fun _ _ _ h => h) (Or.inl ⟨by rfl, ?_⟩) hHeld ?_
                · intro w' hSw; have kx := (World.cell?_of_block (hSw.block _ S3)).trans Y3; go_simp
                try simp only [Act.put, List.getElem_toArray, List.getElem_cons_succ, List.getElem_cons_zero, List.setIfInBounds_toArray, List.set_cons_zero, List.set_cons_succ]
                refine wpAnyH_take (i := 10) (v := .slice (some ⟨G4, 0, none⟩) ts'.length C4) rfl (by kernel_rfl) (by kernel_rfl) (by kernel_rfl) (fun _ _ _ h => h) (Or.inl ⟨by rfl, ?_⟩) hHeld ?_
                · intro w' hSw; go_simp
                try simp only [Act.put, List.getElem_toArray, List.getElem_cons_succ, List.getElem_cons_zero, List.setIfInBounds_toArray, List.set_cons_zero, List.set_cons_succ]
                refine wpAnyH_take (i := 11) (v := .int .i64 ((z : Int))) rfl (by kernel_rfl) (by kernel_rfl) (by kernel_rfl) (fun _ _ _ h => h) (Or.inl ⟨by rfl, ?_⟩) hHeld ?_
                · intro w' hSw; go_simp
                try simp only [Act.put, List.getElem_toArray, List.getElem_cons_succ, List.getElem_cons_zero, List.setIfInBounds_toArray, List.set_cons_zero, List.set_cons_succ]
                refine wpAnyH_take (i := 12) (v := .pointer (some ⟨G4, z, none⟩)) rfl (by kernel_rfl) (by kernel_rfl) (by kernel_rfl) (fun _ _ _ h => h) (Or.inl ⟨by rfl, ?_⟩) hHeld ?_
                · intro w' hSw; go_simp
                try simp only [Act.put, List.getElem_toArray, List.getElem_cons_succ, List.getElem_cons_zero, List.setIfInBounds_toArray, List.set_cons_zero, List.set_cons_succ]
                refine wpAnyH_take (i := 13) (v := .agg #[.slice az tz.toL.length cz]) rfl (by kernel_rfl) (by kernel_rfl) (by kernel_rfl) (fun _ _ _ h => h) (Or.inl ⟨by rfl, ?_⟩) hHeld ?_
                · intro w' hSw; have kx := (World.cell?_of_block (hSw.block _ S4)).trans Y4; go_simp
                try simp only [Act.put, List.getElem_toArray, List.getElem_cons_succ, List.getElem_cons_zero, List.setIfInBounds_toArray, List.set_cons_zero, List.set_cons_succ]
                refine wpAnyH_take (i := 14) (v := .agg #[.int .i64 kind, .int .u16 (f : Int), .slice ak key.length ck, .slice av value.length cv, .slice at_ tos.length ct, .int .i64 m]) rfl (by kernel_rfl) (by kernel_rfl) (by kernel_rfl) (fun _ _ _ h => h) (Or.inl ⟨by rfl, ?_⟩) hHeld ?_
                · intro w' hSw; obtain ⟨k0, k1, k2, k3, k4, k5⟩ := (Hb6g.out.below hSw Hb6g.out.lt).cells.c6; go_simp
                try simp only [Act.put, List.getElem_toArray, List.getElem_cons_succ, List.getElem_cons_zero, List.setIfInBounds_toArray, List.set_cons_zero, List.set_cons_succ]
                refine wpAnyH_ready (rs := [15]) (by kernel_rfl) (by simp) ?_
                refine allCall (f := 25) (args := #[.pointer qz, .agg #[.slice az tz.toL.length cz], .agg #[.int .i64 kind, .int .u16 (f : Int), .slice ak key.length ck, .slice av value.length cv, .slice at_ tos.length ct, .int .i64 m]]) rfl (by kernel_rfl) (by kernel_rfl) ?_ AllReadyH.nil
                refine tells_any 0 wg.heap.size lo hi lo hi tz tz.toL key tos kind (f : Int) m qz _ _ _ _ wt1 Hgz.out rfl (by omega) (Htz.out.step (A' := (fun j => Av (.slice (some ⟨G3, 0, none⟩) ts'.length C3) (.slice (some ⟨G4, 0, none⟩) ts'.length C4) j ∨ X j)) (Below.only (A := fun _ => False) hHeld) (fun _ e => e.elim) (fun _ e => .inl e)).nn (Hrz.out _ (Below.only hHeld)) hHeld.size (Hkg.out _ hHeld) (by have := hHeld.size; omega) (Htg.out _ hHeld) (by have := hHeld.size; omega) ⟨_, _, _, rfl⟩ _ (fun wt2 hBt => ?_)
                have hH2 : Below wg.heap.size wg wt2 := hHeld.trans (hBt.mono hHeld.size)
                refine ⟨_, rfl, hH2, ?_⟩
                clear hHeld hBt
                have hHeld := hH2
                clear hH2
                try simp only [Act.put, List.getElem_toArray, List.getElem_cons_succ, List.getElem_cons_zero, List.setIfInBounds_toArray, List.set_cons_zero, List.set_cons_succ]
                refine wpAnyH_take (i := 16) (v := .bool false) rfl (by kernel_rfl) (by kernel_rfl) (by kernel_rfl) (fun _ _ _ h => h) (Or.inl ⟨by rfl, ?_⟩) hHeld ?_
                · intro w' hSw; go_simp
                try simp only [Act.put, List.getElem_toArray, List.getElem_cons_succ, List.getElem_cons_zero, List.setIfInBounds_toArray, List.set_cons_zero, List.set_cons_succ]
                refine wpAnyH_take (i := 17) (v := .bool false) rfl (by kernel_rfl) (by kernel_rfl) (by kernel_rfl) (fun _ _ _ h => h) (Or.inl ⟨by rfl, ?_⟩) hHeld ?_
                · intro w' hSw; go_simp
                try simp only [Act.put, List.getElem_toArray, List.getElem_cons_succ, List.getElem_cons_zero, List.setIfInBounds_toArray, List.set_cons_zero, List.set_cons_succ]
                refine wpAnyH_take (i := 18) (v := .bool false) rfl (by kernel_rfl) (by kernel_rfl) (by kernel_rfl) (fun _ _ _ h => h) (Or.inl ⟨by rfl, ?_⟩) hHeld ?_
                · intro w' hSw; go_simp
                try simp only [Act.put, List.getElem_toArray, List.getElem_cons_succ, List.getElem_cons_zero, List.setIfInBounds_toArray, List.set_cons_zero, List.set_cons_succ]
                refine wpAnyH_take (i := 19) (v := .slice (some ⟨G3, 0, none⟩) ts'.length C3) rfl (by kernel_rfl) (by kernel_rfl) (by kernel_rfl) (fun _ _ _ h => h) (Or.inl ⟨by rfl, ?_⟩) hHeld ?_
                · intro w' hSw; go_simp
                try simp only [Act.put, List.getElem_toArray, List.getElem_cons_succ, List.getElem_cons_zero, List.setIfInBounds_toArray, List.set_cons_zero, List.set_cons_succ]
                refine wpAnyH_take (i := 20) (v := .int .i64 ((z : Int))) rfl (by kernel_rfl) (by kernel_rfl) (by kernel_rfl) (fun _ _ _ h => h) (Or.inl ⟨by rfl, ?_⟩) hHeld ?_
                · intro w' hSw; go_simp
                try simp only [Act.put, List.getElem_toArray, List.getElem_cons_succ, List.getElem_cons_zero, List.setIfInBounds_toArray, List.set_cons_zero, List.set_cons_succ]
                refine wpAnyH_take (i := 21) (v := .pointer (some ⟨G3, z, none⟩)) rfl (by kernel_rfl) (by kernel_rfl) (by kernel_rfl) (fun _ _ _ h => h) (Or.inl ⟨by rfl, ?_⟩) hHeld ?_
                · intro w' hSw; go_simp
                try simp only [Act.put, List.getElem_toArray, List.getElem_cons_succ, List.getElem_cons_zero, List.setIfInBounds_toArray, List.set_cons_zero, List.set_cons_succ]
                refine wpAnyH_take (i := 22) (v := .pointer qz) rfl (by kernel_rfl) (by kernel_rfl) (by kernel_rfl) (fun _ _ _ h => h) (Or.inl ⟨by rfl, ?_⟩) hHeld ?_
                · intro w' hSw; have kx := (World.cell?_of_block (hSw.block _ S3)).trans Y3; go_simp
                try simp only [Act.put, List.getElem_toArray, List.getElem_cons_succ, List.getElem_cons_zero, List.setIfInBounds_toArray, List.set_cons_zero, List.set_cons_succ]
                refine wpAnyH_take (i := 23) (v := .pointer q) rfl (by kernel_rfl) (by kernel_rfl) (by kernel_rfl) (fun _ _ _ h => h) (Or.inl ⟨by rfl, ?_⟩) hHeld ?_
                · intro w' hSw; go_simp
                try simp only [Act.put, List.getElem_toArray, List.getElem_cons_succ, List.getElem_cons_zero, List.setIfInBounds_toArray, List.set_cons_zero, List.set_cons_succ]
                refine wpAnyH_take (i := 25) (v := .slice (some ⟨G4, 0, none⟩) ts'.length C4) rfl (by kernel_rfl) (by kernel_rfl) (by kernel_rfl) (fun _ _ _ h => h) (Or.inl ⟨by rfl, ?_⟩) hHeld ?_
                · intro w' hSw; go_simp
                try simp only [Act.put, List.getElem_toArray, List.getElem_cons_succ, List.getElem_cons_zero, List.setIfInBounds_toArray, List.set_cons_zero, List.set_cons_succ]
                refine wpAnyH_take (i := 26) (v := .int .i64 ((z : Int))) rfl (by kernel_rfl) (by kernel_rfl) (by kernel_rfl) (fun _ _ _ h => h) (Or.inl ⟨by rfl, ?_⟩) hHeld ?_
                · intro w' hSw; go_simp
                try simp only [Act.put, List.getElem_toArray, List.getElem_cons_succ, List.getElem_cons_zero, List.setIfInBounds_toArray, List.set_cons_zero, List.set_cons_succ]
                refine wpAnyH_take (i := 27) (v := .pointer (some ⟨G4, z, none⟩)) rfl (by kernel_rfl) (by kernel_rfl) (by kernel_rfl) (fun _ _ _ h => h) (Or.inl ⟨by rfl, ?_⟩) hHeld ?_
                · intro w' hSw; go_simp
                try simp only [Act.put, List.getElem_toArray, List.getElem_cons_succ, List.getElem_cons_zero, List.setIfInBounds_toArray, List.set_cons_zero, List.set_cons_succ]
                refine wpAnyH_take (i := 28) (v := .agg #[.slice az tz.toL.length cz]) rfl (by kernel_rfl) (by kernel_rfl) (by kernel_rfl) (fun _ _ _ h => h) (Or.inl ⟨by rfl, ?_⟩) hHeld ?_
                · intro w' hSw; have kx := (World.cell?_of_block (hSw.block _ S4)).trans Y4; go_simp
                try simp only [Act.put, List.getElem_toArray, List.getElem_cons_succ, List.getElem_cons_zero, List.setIfInBounds_toArray, List.set_cons_zero, List.set_cons_succ]
                refine wpAnyH_take (i := 29) (v := .agg #[.slice a ts[k].toL.length c]) rfl (by kernel_rfl) (by kernel_rfl) (by kernel_rfl) (fun _ _ _ h => h) (Or.inl ⟨by rfl, ?_⟩) hHeld ?_
                · intro w' hSw; have kx := (Hb9g.out.below hSw Hb9g.out.lt).cells.c1; go_simp
                try simp only [Act.put, List.getElem_toArray, List.getElem_cons_succ, List.getElem_cons_zero, List.setIfInBounds_toArray, List.set_cons_zero, List.set_cons_succ]
                refine wpAnyH_ready (rs := [24]) (by kernel_rfl) (by simp) ?_
                refine allCall (f := 27) (args := #[.pointer qz, .pointer q]) rfl (by kernel_rfl) (by kernel_rfl) ?_ AllReadyH.nil
                refine Diff_any 0 tz ts[k] _ _ wt2 (Nat.zero_le _) (Htz.out.step (A' := (fun j => Av (.slice (some ⟨G3, 0, none⟩) ts'.length C3) (.slice (some ⟨G4, 0, none⟩) ts'.length C4) j ∨ X j)) (Below.only (A := fun _ => False) hHeld) (fun _ e => e.elim) (fun _ e => .inl e)).nn (Htk.out.step (A' := (fun j => Av (.slice (some ⟨G3, 0, none⟩) ts'.length C3) (.slice (some ⟨G4, 0, none⟩) ts'.length C4) j ∨ X j)) (Below.only (A := fun _ => False) hHeld) (fun _ e => e.elim) (fun _ e => .inl e)).nn (by have := Hgz.out.many; omega) Hgz.out.len8 _ (fun wp1 vp ps1 hBp hP => ?_)
                rw [diff_doc Hgz.out Hgk.out] at hP
                obtain ⟨pp1, cp1, rfl⟩ := hP.form
                have hH2 : Below wg.heap.size wg wp1 := hHeld.trans (hBp.mono hHeld.size)
                have hzh := hHeld.size
                refine ⟨_, rfl, hH2, ?_⟩
                clear hHeld hBp
                have hHeld := hH2
                clear hH2
                try simp only [Act.put, List.getElem_toArray, List.getElem_cons_succ, List.getElem_cons_zero, List.setIfInBounds_toArray, List.set_cons_zero, List.set_cons_succ]
                refine wpAnyH_ready (rs := [30]) (by kernel_rfl) (by simp) ?_
                refine allCall (f := 28) (args := #[.agg #[.slice az tz.toL.length cz], .agg #[.slice a ts[k].toL.length c]]) rfl (by kernel_rfl) (by kernel_rfl) ?_ AllReadyH.nil
                refine Diff_ref 0 wg.heap.size 0 wg.heap.size tz.toL ts[k].toL _ _ wp1 (Hrz.out _ (Below.only hHeld)) hHeld.size Hlz.out (Hrk.out _ (Below.only hHeld)) hHeld.size Hlk.out _ (fun wq1 vq hBq ho => ?_)
                obtain ⟨pq1, cq1, rfl⟩ := OwnR.form ho
                have hH2 : Below wg.heap.size wg wq1 := hHeld.trans (hBq.mono hHeld.size)
                refine ⟨_, rfl, hH2, ?_⟩
                clear hHeld
                have hHeld := hH2
                clear hH2
                try simp only [Act.put, List.getElem_toArray, List.getElem_cons_succ, List.getElem_cons_zero, List.setIfInBounds_toArray, List.set_cons_zero, List.set_cons_succ]
                refine wpAnyH_ready (rs := [31]) (by kernel_rfl) (by simp) ?_
                refine allCall (f := 26) (args := #[.slice pp1 (tz.toL.filter (noP ts[k].toL)).length cp1, .slice pq1 (tz.toL.filter (noP ts[k].toL)).length cq1]) rfl (by kernel_rfl) (by kernel_rfl) ?_ AllReadyH.nil
                have hP2 := hP.below hBq
                refine same_any wt2.heap.size wp1.heap.size wq1.heap.size ps1 (tz.toL.filter (noP ts[k].toL)) _ _ wq1 hP2 (fun w' hO => Sl.agree (OwnR.rs ho) (flat_loc _) (hO.agree (Nat.le_refl _) (fun k hk => .inl (hP.lt.2 k hk).2))) (Nat.le_trans (List.length_filter_le _ _) (by have := Hlz.out; omega)) _ (fun ws1 hO => ?_)
                have hH2 : Below wg.heap.size wg ws1 := hHeld.trans (hO.below hHeld.size (fun k hk => by have := (hP.lt.2 k hk).1; omega))
                refine ⟨_, rfl, hH2, ?_⟩
                clear hHeld hP2 hO hBq ho hP hzh
                have hHeld := hH2
                clear hH2
                try simp only [Act.put, List.getElem_toArray, List.getElem_cons_succ, List.getElem_cons_zero, List.setIfInBounds_toArray, List.set_cons_zero, List.set_cons_succ]
                refine wpAnyH_take (i := 32) (v := .bool false) rfl (by kernel_rfl) (by kernel_rfl) (by kernel_rfl) (fun _ _ _ h => h) (Or.inl ⟨by rfl, ?_⟩) hHeld ?_
                · intro w' hSw; go_simp
                try simp only [Act.put, List.getElem_toArray, List.getElem_cons_succ, List.getElem_cons_zero, List.setIfInBounds_toArray, List.set_cons_zero, List.set_cons_succ]
                refine wpAnyH_take (i := 33) (v := .bool false) rfl (by kernel_rfl) (by kernel_rfl) (by kernel_rfl) (fun _ _ _ h => h) (Or.inl ⟨by rfl, ?_⟩) hHeld ?_
                · intro w' hSw; go_simp
                try simp only [Act.put, List.getElem_toArray, List.getElem_cons_succ, List.getElem_cons_zero, List.setIfInBounds_toArray, List.set_cons_zero, List.set_cons_succ]
                refine wpAnyH_take (i := 34) (v := .bool false) rfl (by kernel_rfl) (by kernel_rfl) (by kernel_rfl) (fun _ _ _ h => h) (Or.inl ⟨by rfl, ?_⟩) hHeld ?_
                · intro w' hSw; go_simp
                try simp only [Act.put, List.getElem_toArray, List.getElem_cons_succ, List.getElem_cons_zero, List.setIfInBounds_toArray, List.set_cons_zero, List.set_cons_succ]
                refine wpAnyH_take (i := 35) (v := .pointer q) rfl (by kernel_rfl) (by kernel_rfl) (by kernel_rfl) (fun _ _ _ h => h) (Or.inl ⟨by rfl, ?_⟩) hHeld ?_
                · intro w' hSw; go_simp
                try simp only [Act.put, List.getElem_toArray, List.getElem_cons_succ, List.getElem_cons_zero, List.setIfInBounds_toArray, List.set_cons_zero, List.set_cons_succ]
                refine wpAnyH_take (i := 36) (v := .slice (some ⟨G3, 0, none⟩) ts'.length C3) rfl (by kernel_rfl) (by kernel_rfl) (by kernel_rfl) (fun _ _ _ h => h) (Or.inl ⟨by rfl, ?_⟩) hHeld ?_
                · intro w' hSw; go_simp
                try simp only [Act.put, List.getElem_toArray, List.getElem_cons_succ, List.getElem_cons_zero, List.setIfInBounds_toArray, List.set_cons_zero, List.set_cons_succ]
                refine wpAnyH_take (i := 37) (v := .int .i64 ((z : Int))) rfl (by kernel_rfl) (by kernel_rfl) (by kernel_rfl) (fun _ _ _ h => h) (Or.inl ⟨by rfl, ?_⟩) hHeld ?_
                · intro w' hSw; go_simp
                try simp only [Act.put, List.getElem_toArray, List.getElem_cons_succ, List.getElem_cons_zero, List.setIfInBounds_toArray, List.set_cons_zero, List.set_cons_succ]
                refine wpAnyH_take (i := 38) (v := .pointer (some ⟨G3, z, none⟩)) rfl (by kernel_rfl) (by kernel_rfl) (by kernel_rfl) (fun _ _ _ h => h) (Or.inl ⟨by rfl, ?_⟩) hHeld ?_
                · intro w' hSw; go_simp
                try simp only [Act.put, List.getElem_toArray, List.getElem_cons_succ, List.getElem_cons_zero, List.setIfInBounds_toArray, List.set_cons_zero, List.set_cons_succ]
                refine wpAnyH_take (i := 39) (v := .pointer qz) rfl (by kernel_rfl) (by kernel_rfl) (by kernel_rfl) (fun _ _ _ h => h) (Or.inl ⟨by rfl, ?_⟩) hHeld ?_
                · intro w' hSw; have kx := (World.cell?_of_block (hSw.block _ S3)).trans Y3; go_simp
                try simp only [Act.put, List.getElem_toArray, List.getElem_cons_succ, List.getElem_cons_zero, List.setIfInBounds_toArray, List.set_cons_zero, List.set_cons_succ]
                refine wpAnyH_take (i := 41) (v := .agg #[.slice a ts[k].toL.length c]) rfl (by kernel_rfl) (by kernel_rfl) (by kernel_rfl) (fun _ _ _ h => h) (Or.inl ⟨by rfl, ?_⟩) hHeld ?_
                · intro w' hSw; have kx := (Hb9g.out.below hSw Hb9g.out.lt).cells.c1; go_simp
                try simp only [Act.put, List.getElem_toArray, List.getElem_cons_succ, List.getElem_cons_zero, List.setIfInBounds_toArray, List.set_cons_zero, List.set_cons_succ]
                refine wpAnyH_take (i := 42) (v := .slice (some ⟨G4, 0, none⟩) ts'.length C4) rfl (by kernel_rfl) (by kernel_rfl) (by kernel_rfl) (fun _ _ _ h => h) (Or.inl ⟨by rfl, ?_⟩) hHeld ?_
                · intro w' hSw; go_simp
                try simp only [Act.put, List.getElem_toArray, List.getElem_cons_succ, List.getElem_cons_zero, List.setIfInBounds_toArray, List.set_cons_zero, List.set_cons_succ]
                refine wpAnyH_take (i := 43) (v := .int .i64 ((z : Int))) rfl (by kernel_rfl) (by kernel_rfl) (by kernel_rfl) (fun _ _ _ h => h) (Or.inl ⟨by rfl, ?_⟩) hHeld ?_
                · intro w' hSw; go_simp
                try simp only [Act.put, List.getElem_toArray, List.getElem_cons_succ, List.getElem_cons_zero, List.setIfInBounds_toArray, List.set_cons_zero, List.set_cons_succ]
                refine wpAnyH_take (i := 44) (v := .pointer (some ⟨G4, z, none⟩)) rfl (by kernel_rfl) (by kernel_rfl) (by kernel_rfl) (fun _ _ _ h => h) (Or.inl ⟨by rfl, ?_⟩) hHeld ?_
                · intro w' hSw; go_simp
                try simp only [Act.put, List.getElem_toArray, List.getElem_cons_succ, List.getElem_cons_zero, List.setIfInBounds_toArray, List.set_cons_zero, List.set_cons_succ]
                refine wpAnyH_take (i := 45) (v := .agg #[.slice az tz.toL.length cz]) rfl (by kernel_rfl) (by kernel_rfl) (by kernel_rfl) (fun _ _ _ h => h) (Or.inl ⟨by rfl, ?_⟩) hHeld ?_
                · intro w' hSw; have kx := (World.cell?_of_block (hSw.block _ S4)).trans Y4; go_simp
                try simp only [Act.put, List.getElem_toArray, List.getElem_cons_succ, List.getElem_cons_zero, List.setIfInBounds_toArray, List.set_cons_zero, List.set_cons_succ]
                refine wpAnyH_ready (rs := [40]) (by kernel_rfl) (by simp) ?_
                refine allCall (f := 27) (args := #[.pointer q, .pointer qz]) rfl (by kernel_rfl) (by kernel_rfl) ?_ AllReadyH.nil
                refine Diff_any 0 ts[k] tz _ _ ws1 (Nat.zero_le _) (Htk.out.step (A' := (fun j => Av (.slice (some ⟨G3, 0, none⟩) ts'.length C3) (.slice (some ⟨G4, 0, none⟩) ts'.length C4) j ∨ X j)) (Below.only (A := fun _ => False) hHeld) (fun _ e => e.elim) (fun _ e => .inl e)).nn (Htz.out.step (A' := (fun j => Av (.slice (some ⟨G3, 0, none⟩) ts'.length C3) (.slice (some ⟨G4, 0, none⟩) ts'.length C4) j ∨ X j)) (Below.only (A := fun _ => False) hHeld) (fun _ e => e.elim) (fun _ e => .inl e)).nn (by have := Hgk.out.many; omega) Hgk.out.len8 _ (fun wp2 vp ps2 hBp hP => ?_)
                rw [diff_doc Hgk.out Hgz.out] at hP
                obtain ⟨pp2, cp2, rfl⟩ := hP.form
                have hH2 : Below wg.heap.size wg wp2 := hHeld.trans (hBp.mono hHeld.size)
                have hzh := hHeld.size
                refine ⟨_, rfl, hH2, ?_⟩
                clear hHeld hBp
                have hHeld := hH2
                clear hH2
                try simp only [Act.put, List.getElem_toArray, List.getElem_cons_succ, List.getElem_cons_zero, List.setIfInBounds_toArray, List.set_cons_zero, List.set_cons_succ]
                refine wpAnyH_ready (rs := [46]) (by kernel_rfl) (by simp) ?_
                refine allCall (f := 28) (args := #[.agg #[.slice a ts[k].toL.length c], .agg #[.slice az tz.toL.length cz]]) rfl (by kernel_rfl) (by kernel_rfl) ?_ AllReadyH.nil
                refine Diff_ref 0 wg.heap.size 0 wg.heap.size ts[k].toL tz.toL _ _ wp2 (Hrk.out _ (Below.only hHeld)) hHeld.size Hlk.out (Hrz.out _ (Below.only hHeld)) hHeld.size Hlz.out _ (fun wq2 vq hBq ho => ?_)
                obtain ⟨pq2, cq2, rfl⟩ := OwnR.form ho
                have hH2 : Below wg.heap.size wg wq2 := hHeld.trans (hBq.mono hHeld.size)
                refine ⟨_, rfl, hH2, ?_⟩
                clear hHeld
                have hHeld := hH2
                clear hH2
                try simp only [Act.put, List.getElem_toArray, List.getElem_cons_succ, List.getElem_cons_zero, List.setIfInBounds_toArray, List.set_cons_zero, List.set_cons_succ]
                refine wpAnyH_ready (rs := [47]) (by kernel_rfl) (by simp) ?_
                refine allCall (f := 26) (args := #[.slice pp2 (ts[k].toL.filter (noP tz.toL)).length cp2, .slice pq2 (ts[k].toL.filter (noP tz.toL)).length cq2]) rfl (by kernel_rfl) (by kernel_rfl) ?_ AllReadyH.nil
                have hP2 := hP.below hBq
                refine same_any ws1.heap.size wp2.heap.size wq2.heap.size ps2 (ts[k].toL.filter (noP tz.toL)) _ _ wq2 hP2 (fun w' hO => Sl.agree (OwnR.rs ho) (flat_loc _) (hO.agree (Nat.le_refl _) (fun k hk => .inl (hP.lt.2 k hk).2))) (Nat.le_trans (List.length_filter_le _ _) (by have := Hlk.out; omega)) _ (fun ws2 hO => ?_)
                have hH2 : Below wg.heap.size wg ws2 := hHeld.trans (hO.below hHeld.size (fun k hk => by have := (hP.lt.2 k hk).1; omega))
                refine ⟨_, rfl, hH2, ?_⟩
                clear hHeld hP2 hO hBq ho hP hzh
                have hHeld := hH2
                clear hH2
                try simp only [Act.put, List.getElem_toArray, List.getElem_cons_succ, List.getElem_cons_zero, List.setIfInBounds_toArray, List.set_cons_zero, List.set_cons_succ]
                refine wpAnyH_take (i := 48) (v := .bool false) rfl (by kernel_rfl) (by kernel_rfl) (by kernel_rfl) (fun _ _ _ h => h) (Or.inl ⟨by rfl, ?_⟩) hHeld ?_
                · intro w' hSw; go_simp
                try simp only [Act.put, List.getElem_toArray, List.getElem_cons_succ, List.getElem_cons_zero, List.setIfInBounds_toArray, List.set_cons_zero, List.set_cons_succ]
                refine wpAnyH_take (i := 49) (v := .bool false) rfl (by kernel_rfl) (by kernel_rfl) (by kernel_rfl) (fun _ _ _ h => h) (Or.inl ⟨by rfl, ?_⟩) hHeld ?_
                · intro w' hSw; go_simp
                try simp only [Act.put, List.getElem_toArray, List.getElem_cons_succ, List.getElem_cons_zero, List.setIfInBounds_toArray, List.set_cons_zero, List.set_cons_succ]
                have HFin := Lib.hid hHeld
                refine wpAnyH_done (by kernel_rfl) ?_ _
                clear hHeld
                go_wp2_with fail
                have HSn := Lib.hid ((HSg.out.below HFin.out).step (A' := fun j => Av (.slice (some ⟨G3, 0, none⟩) ts'.length C3) (.slice (some ⟨G4, 0, none⟩) ts'.length C4) j) (A2 := fun _ => False) (Only.refl _ _) (fun _ e => e.elim) (fun _ e => .inl (.inl e)) (fun _ e => e))
                have HBn := Lib.hid (HBg.out.trans (HFin.out.mono HBg.out.size))
                go_roundw
                case rel => exact ⟨i + 1, ps', rs', ts', by omega, by go_num, HBn.out, HSn.out⟩
                case measure => first | (simp [intOf]; done) | (simp [intOf]; omega)
    · obtain rfl : i = l.length := by omega
      have HSo := Lib.hid hS
      have hw0 := hB.size
      have HBO := Lib.hid hB
      have hn2 := hS.n2
      have hnm := hS.nm
      obtain ⟨g3, n3, c3, g4, n4, c4, -, -, -, rfl, rfl, rfl, rfl, -⟩ := hS.at 0 (by omega)
      clear hS hB
      go_wp2_with fail
      go_loopw [201] (fun t201 wr => ∃ k : Nat, k ≤ ts.length ∧ t201 = .int .i64 (k : Int) ∧ Below wo.heap.size wo wr) (fun t201 _ => ts.length - (intOf t201).toNat)
      case atStart => exact ⟨0, Nat.zero_le _, rfl, Below.refl _ _⟩
      case round =>
        obtain ⟨k, hk1, rfl, hBk⟩ := hrel
        have HBk := Lib.hid hBk
        have k0 : (0 : Int) ≤ (k : Int) := by omega
        by_cases hk : k < ts.length
        · have kl : (k : Int) < (ts.length : Int) := by omega
          have HSr := Lib.hid (HSo.out.below hBk)
          obtain ⟨G3, n3, C3, G4, n4, C4, q, a, c, e3, rfl, e4, rfl, b3, s3, b4, s4, y3, y4, ht0, hr0, hg0, -, -⟩ := HSr.out.at k hk
          injection e3 with e3 e3' e3''
          injection e3 with e3
          injection e3 with e3
          injection e4 with e4 e4' e4''
          injection e4 with e4
          injection e4 with e4
          subst e3 e3'' e4 e4''
          generalize ts[k] = tk at *
          have Ht0 := Lib.hid ht0
          have Hr0 := Lib.hid hr0
          have Hg0 := Lib.hid hg0
          clear ht0 hr0 hg0 hBk e3' e4'
          go_wp2_with fail
          refine wp_region_held_drew (S := fun w' => Below wr.heap.size wr w') (by kernel_rfl) (Below.drew (Below.refl _ _)) (fun hHeld => ?_)
          refine wpAnyH_take (i := 0) (v := .slice (some ⟨g3, 0, none⟩) ts.length c3) rfl (by kernel_rfl) (by kernel_rfl) (by kernel_rfl) (fun _ _ _ h => h) (Or.inl ⟨by rfl, ?_⟩) hHeld ?_
          · intro w' hSw; go_simp
          try simp only [Act.put, List.getElem_toArray, List.getElem_cons_succ, List.getElem_cons_zero, List.setIfInBounds_toArray, List.set_cons_zero, List.set_cons_succ]
          refine wpAnyH_take (i := 1) (v := .int .i64 ((k : Int))) rfl (by kernel_rfl) (by kernel_rfl) (by kernel_rfl) (fun _ _ _ h => h) (Or.inl ⟨by rfl, ?_⟩) hHeld ?_
          · intro w' hSw; go_simp
          try simp only [Act.put, List.getElem_toArray, List.getElem_cons_succ, List.getElem_cons_zero, List.setIfInBounds_toArray, List.set_cons_zero, List.set_cons_succ]
          refine wpAnyH_take (i := 2) (v := .pointer (some ⟨g3, k, none⟩)) rfl (by kernel_rfl) (by kernel_rfl) (by kernel_rfl) (fun _ _ _ h => h) (Or.inl ⟨by rfl, ?_⟩) hHeld ?_
          · intro w' hSw; go_simp
          try simp only [Act.put, List.getElem_toArray, List.getElem_cons_succ, List.getElem_cons_zero, List.setIfInBounds_toArray, List.set_cons_zero, List.set_cons_succ]
          refine wpAnyH_take (i := 3) (v := .pointer q) rfl (by kernel_rfl) (by kernel_rfl) (by kernel_rfl) (fun _ _ _ h => h) (Or.inl ⟨by rfl, ?_⟩) hHeld ?_
          · intro w' hSw; have kx := (World.cell?_of_block (hSw.block _ s3)).trans y3; go_simp
          try simp only [Act.put, List.getElem_toArray, List.getElem_cons_succ, List.getElem_cons_zero, List.setIfInBounds_toArray, List.set_cons_zero, List.set_cons_succ]
          refine wpAnyH_take (i := 5) (v := .slice (some ⟨g4, 0, none⟩) ts.length c4) rfl (by kernel_rfl) (by kernel_rfl) (by kernel_rfl) (fun _ _ _ h => h) (Or.inl ⟨by rfl, ?_⟩) hHeld ?_
          · intro w' hSw; go_simp
          try simp only [Act.put, List.getElem_toArray, List.getElem_cons_succ, List.getElem_cons_zero, List.setIfInBounds_toArray, List.set_cons_zero, List.set_cons_succ]
          refine wpAnyH_take (i := 6) (v := .int .i64 ((k : Int))) rfl (by kernel_rfl) (by kernel_rfl) (by kernel_rfl) (fun _ _ _ h => h) (Or.inl ⟨by rfl, ?_⟩) hHeld ?_
          · intro w' hSw; go_simp
          try simp only [Act.put, List.getElem_toArray, List.getElem_cons_succ, List.getElem_cons_zero, List.setIfInBounds_toArray, List.set_cons_zero, List.set_cons_succ]
          refine wpAnyH_take (i := 7) (v := .pointer (some ⟨g4, k, none⟩)) rfl (by kernel_rfl) (by kernel_rfl) (by kernel_rfl) (fun _ _ _ h => h) (Or.inl ⟨by rfl, ?_⟩) hHeld ?_
          · intro w' hSw; go_simp
          try simp only [Act.put, List.getElem_toArray, List.getElem_cons_succ, List.getElem_cons_zero, List.setIfInBounds_toArray, List.set_cons_zero, List.set_cons_succ]
          refine wpAnyH_take (i := 8) (v := .pointer (some ⟨g4, k, none⟩)) rfl (by kernel_rfl) (by kernel_rfl) (by kernel_rfl) (fun _ _ _ h => h) (Or.inl ⟨by rfl, ?_⟩) hHeld ?_
          · intro w' hSw; go_simp
          try simp only [Act.put, List.getElem_toArray, List.getElem_cons_succ, List.getElem_cons_zero, List.setIfInBounds_toArray, List.set_cons_zero, List.set_cons_succ]
          refine wpAnyH_take (i := 9) (v := .slice a tk.toL.length c) rfl (by kernel_rfl) (by kernel_rfl) (by kernel_rfl) (fun _ _ _ h => h) (Or.inl ⟨by rfl, ?_⟩) hHeld ?_
          · intro w' hSw; have kx := (World.cell?_of_block (hSw.block _ s4)).trans y4; go_simp
          try simp only [Act.put, List.getElem_toArray, List.getElem_cons_succ, List.getElem_cons_zero, List.setIfInBounds_toArray, List.set_cons_zero, List.set_cons_succ]
          refine wpAnyH_ready (rs := [4]) (by kernel_rfl) (by simp) ?_
          refine allCall (f := 14) (args := #[.pointer q, .slice none 0 0, .slice none 0 0, .int .i64 1000]) rfl (by kernel_rfl) (by kernel_rfl) ?_ AllReadyH.nil
          refine Range_any Nn 0 0 0 0 0 tk [] [] _ _ _ 1000 wr.drew (Nn.lt _) (Nat.zero_le _) (Ht0.out.step (A' := (fun j => Av (.slice (some ⟨g3, 0, none⟩) ts.length c3) (.slice (some ⟨g4, 0, none⟩) ts.length c4) j)) (Only.drew (A := fun _ => False) _) (fun _ e => e.elim) (fun _ e => .inl e)).nn (Sl.nil _ _ _ _ _) (Nat.zero_le _) (Sl.nil _ _ _ _ _) (Nat.zero_le _) (by have := Hg0.out.many; omega) Hg0.out.len8 _ (fun w2 v2 ps2 hB2 hP => ?_)
          rw [from_nil tk Hg0.out.rises, rangeL_all 1000 tk.toL (by have := T.many_toL tk; have := Hg0.out.many; omega)] at hP
          obtain ⟨pp, cp, rfl⟩ := hP.form
          have hH2 : Below wr.heap.size wr w2 := hHeld.trans hB2
          refine ⟨_, rfl, hH2, ?_⟩
          clear hHeld
          have hHeld := hH2
          clear hH2
          try simp only [Act.put, List.getElem_toArray, List.getElem_cons_succ, List.getElem_cons_zero, List.setIfInBounds_toArray, List.set_cons_zero, List.set_cons_succ]
          refine wpAnyH_ready (rs := [10]) (by kernel_rfl) (by simp) ?_
          refine allCall (f := 26) (args := #[.slice pp tk.toL.length cp, .slice a tk.toL.length c]) rfl (by kernel_rfl) (by kernel_rfl) ?_ AllReadyH.nil
          refine same_any wr.heap.size 0 wr.heap.size ps2 tk.toL _ _ w2 hP (fun w' hO => Hr0.out w' (Below.only (hHeld.trans (hO.below hHeld.size (fun k hk => (hP.lt.2 k hk).1))))) (by have := T.many_toL tk; have := Hg0.out.many; omega) _ (fun w3 hO => ?_)
          have hH2 : Below wr.heap.size wr w3 := hHeld.trans (hO.below hHeld.size (fun k hk => (hP.lt.2 k hk).1))
          refine ⟨_, rfl, hH2, ?_⟩
          clear hHeld hP hO hB2
          have hHeld := hH2
          clear hH2
          try simp only [Act.put, List.getElem_toArray, List.getElem_cons_succ, List.getElem_cons_zero, List.setIfInBounds_toArray, List.set_cons_zero, List.set_cons_succ]
          refine wpAnyH_take (i := 11) (v := .bool false) rfl (by kernel_rfl) (by kernel_rfl) (by kernel_rfl) (fun _ _ _ h => h) (Or.inl ⟨by rfl, ?_⟩) hHeld ?_
          · intro w' hSw; go_simp
          try simp only [Act.put, List.getElem_toArray, List.getElem_cons_succ, List.getElem_cons_zero, List.setIfInBounds_toArray, List.set_cons_zero, List.set_cons_succ]
          refine wpAnyH_take (i := 12) (v := .bool false) rfl (by kernel_rfl) (by kernel_rfl) (by kernel_rfl) (fun _ _ _ h => h) (Or.inl ⟨by rfl, ?_⟩) hHeld ?_
          · intro w' hSw; go_simp
          try simp only [Act.put, List.getElem_toArray, List.getElem_cons_succ, List.getElem_cons_zero, List.setIfInBounds_toArray, List.set_cons_zero, List.set_cons_succ]
          refine wpAnyH_take (i := 13) (v := .slice (some ⟨g3, 0, none⟩) ts.length c3) rfl (by kernel_rfl) (by kernel_rfl) (by kernel_rfl) (fun _ _ _ h => h) (Or.inl ⟨by rfl, ?_⟩) hHeld ?_
          · intro w' hSw; go_simp
          try simp only [Act.put, List.getElem_toArray, List.getElem_cons_succ, List.getElem_cons_zero, List.setIfInBounds_toArray, List.set_cons_zero, List.set_cons_succ]
          refine wpAnyH_take (i := 14) (v := .int .i64 ((k : Int))) rfl (by kernel_rfl) (by kernel_rfl) (by kernel_rfl) (fun _ _ _ h => h) (Or.inl ⟨by rfl, ?_⟩) hHeld ?_
          · intro w' hSw; go_simp
          try simp only [Act.put, List.getElem_toArray, List.getElem_cons_succ, List.getElem_cons_zero, List.setIfInBounds_toArray, List.set_cons_zero, List.set_cons_succ]
          refine wpAnyH_take (i := 15) (v := .pointer (some ⟨g3, k, none⟩)) rfl (by kernel_rfl) (by kernel_rfl) (by kernel_rfl) (fun _ _ _ h => h) (Or.inl ⟨by rfl, ?_⟩) hHeld ?_
          · intro w' hSw; go_simp
          try simp only [Act.put, List.getElem_toArray, List.getElem_cons_succ, List.getElem_cons_zero, List.setIfInBounds_toArray, List.set_cons_zero, List.set_cons_succ]
          refine wpAnyH_take (i := 16) (v := .pointer q) rfl (by kernel_rfl) (by kernel_rfl) (by kernel_rfl) (fun _ _ _ h => h) (Or.inl ⟨by rfl, ?_⟩) hHeld ?_
          · intro w' hSw; have kx := (World.cell?_of_block (hSw.block _ s3)).trans y3; go_simp
          try simp only [Act.put, List.getElem_toArray, List.getElem_cons_succ, List.getElem_cons_zero, List.setIfInBounds_toArray, List.set_cons_zero, List.set_cons_succ]
          refine wpAnyH_take (i := 18) (v := .slice (some ⟨g4, 0, none⟩) ts.length c4) rfl (by kernel_rfl) (by kernel_rfl) (by kernel_rfl) (fun _ _ _ h => h) (Or.inl ⟨by rfl, ?_⟩) hHeld ?_
          · intro w' hSw; go_simp
          try simp only [Act.put, List.getElem_toArray, List.getElem_cons_succ, List.getElem_cons_zero, List.setIfInBounds_toArray, List.set_cons_zero, List.set_cons_succ]
          refine wpAnyH_take (i := 19) (v := .int .i64 ((k : Int))) rfl (by kernel_rfl) (by kernel_rfl) (by kernel_rfl) (fun _ _ _ h => h) (Or.inl ⟨by rfl, ?_⟩) hHeld ?_
          · intro w' hSw; go_simp
          try simp only [Act.put, List.getElem_toArray, List.getElem_cons_succ, List.getElem_cons_zero, List.setIfInBounds_toArray, List.set_cons_zero, List.set_cons_succ]
          refine wpAnyH_take (i := 20) (v := .pointer (some ⟨g4, k, none⟩)) rfl (by kernel_rfl) (by kernel_rfl) (by kernel_rfl) (fun _ _ _ h => h) (Or.inl ⟨by rfl, ?_⟩) hHeld ?_
          · intro w' hSw; go_simp
          try simp only [Act.put, List.getElem_toArray, List.getElem_cons_succ, List.getElem_cons_zero, List.setIfInBounds_toArray, List.set_cons_zero, List.set_cons_succ]
          refine wpAnyH_take (i := 21) (v := .pointer (some ⟨g4, k, none⟩)) rfl (by kernel_rfl) (by kernel_rfl) (by kernel_rfl) (fun _ _ _ h => h) (Or.inl ⟨by rfl, ?_⟩) hHeld ?_
          · intro w' hSw; go_simp
          try simp only [Act.put, List.getElem_toArray, List.getElem_cons_succ, List.getElem_cons_zero, List.setIfInBounds_toArray, List.set_cons_zero, List.set_cons_succ]
          refine wpAnyH_take (i := 22) (v := .slice a tk.toL.length c) rfl (by kernel_rfl) (by kernel_rfl) (by kernel_rfl) (fun _ _ _ h => h) (Or.inl ⟨by rfl, ?_⟩) hHeld ?_
          · intro w' hSw; have kx := (World.cell?_of_block (hSw.block _ s4)).trans y4; go_simp
          try simp only [Act.put, List.getElem_toArray, List.getElem_cons_succ, List.getElem_cons_zero, List.setIfInBounds_toArray, List.set_cons_zero, List.set_cons_succ]
          refine wpAnyH_take (i := 23) (v := .int .i64 ((tk.toL.length : Int))) rfl (by kernel_rfl) (by kernel_rfl) (by kernel_rfl) (fun _ _ _ h => h) (Or.inl ⟨by rfl, ?_⟩) hHeld ?_
          · intro w' hSw; go_simp
          try simp only [Act.put, List.getElem_toArray, List.getElem_cons_succ, List.getElem_cons_zero, List.setIfInBounds_toArray, List.set_cons_zero, List.set_cons_succ]
          refine wpAnyH_ready (rs := [17]) (by kernel_rfl) (by simp) ?_
          refine allCall (f := 16) (args := #[.pointer q]) rfl (by kernel_rfl) (by kernel_rfl) ?_ AllReadyH.nil
          refine Len_any Nn 0 tk _ w3 (Ht0.out.step (A' := (fun j => Av (.slice (some ⟨g3, 0, none⟩) ts.length c3) (.slice (some ⟨g4, 0, none⟩) ts.length c4) j)) (Below.only (A := fun _ => False) hHeld) (fun _ e => e.elim) (fun _ e => .inl e)).nn _ ?_
          rw [show (tk.many : Int) = (tk.toL.length : Int) by rw [T.many_toL]]
          refine ⟨_, rfl, hHeld, ?_⟩
          try simp only [Act.put, List.getElem_toArray, List.getElem_cons_succ, List.getElem_cons_zero, List.setIfInBounds_toArray, List.set_cons_zero, List.set_cons_succ]
          refine wpAnyH_take (i := 24) (v := .bool false) rfl (by kernel_rfl) (by kernel_rfl) (by kernel_rfl) (fun _ _ _ h => h) (Or.inl ⟨by rfl, ?_⟩) hHeld ?_
          · intro w' hSw; go_simp
          try simp only [Act.put, List.getElem_toArray, List.getElem_cons_succ, List.getElem_cons_zero, List.setIfInBounds_toArray, List.set_cons_zero, List.set_cons_succ]
          refine wpAnyH_take (i := 25) (v := .bool false) rfl (by kernel_rfl) (by kernel_rfl) (by kernel_rfl) (fun _ _ _ h => h) (Or.inl ⟨by rfl, ?_⟩) hHeld ?_
          · intro w' hSw; go_simp
          try simp only [Act.put, List.getElem_toArray, List.getElem_cons_succ, List.getElem_cons_zero, List.setIfInBounds_toArray, List.set_cons_zero, List.set_cons_succ]
          have HFin := Lib.hid hHeld
          refine wpAnyH_done (by kernel_rfl) ?_ _
          clear hHeld
          go_wp2_with fail
          have HBn := Lib.hid (HBk.out.trans (HFin.out.mono HBk.out.size))
          go_roundw
          case rel => exact ⟨k + 1, by omega, by go_num, HBn.out⟩
          case measure => first | (simp [intOf]; done) | (simp [intOf]; omega)
        · have hr := HR.out wr (HBO.out.trans (hBk.mono hw0))
          clear hBk
          go_wp2_with fail
          first | exact hr | exact fin hr rfl
end Go.Proofs.Ytmlcnfomiemdpaa
