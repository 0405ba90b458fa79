/- The walk of DiskPlays. (Printed by disklp.py.) -/
import Derived.Test.YtfmpafheodpfoaaDiskLr
import Derived.Deep.CutBlock
import Derived.Deep.DeepCutAuto
namespace Go.Proofs.Ytfmpafheodpfoaa
open Go.RowKit
attribute [local go_sem ↓] Go.wp_at_zero Go.wp_at_succ
set_option linter.unusedVariables false
set_option linter.unusedSimpArgs false

set_option maxRecDepth 100000 in
set_option maxHeartbeats 8000000 in
theorem DiskPlays_any (lo hi : Nat) (n : Int) (l : List DOp) (v : Value) (w : World) (hv : Sl opE 8 lo hi w v l) (hok : ∀ x ∈ l, x.n ≤ 9223372036854775807) (hhi : hi ≤ w.heap.size)
    (R : Ending → World → Prop) (hR : ∀ w', Below w.heap.size w w' → R (.returned (.bool true)) w') : Calls Try.prog 5 #[.int .i64 n, v] w R := by
  have HR := Lib.hid hR
  have Hv := Lib.hid hv
  have Hok := Lib.hid hok
  obtain ⟨ao, cap, rfl, -, -, -, -⟩ := hv.form
  have hr1 := hR w (Below.refl _ _)
  clear hv hR hok
  go_enter Try.func5, Try.ntmps5
  go_wp2_with fail
  refine great_any lo hi l _ w Hv.out _ ?_
  by_cases hgr : (decide (150 < l.length) || l.any DOp.great) = true
  · rw [hgr]
    go_wp2_with fail
    all_goals first | exact hr1 | exact fin hr1 rfl
  rw [Bool.not_eq_true] at hgr
  rw [hgr]
  have hll : l.length ≤ 150 := by
    simp only [Bool.or_eq_false_iff, decide_eq_false_iff_not] at hgr; omega
  have Hgr : Hid (∀ x ∈ l, x.data.length ≤ 300) := Lib.hid (fun x hx => by
    simp only [Bool.or_eq_false_iff, decide_eq_false_iff_not] at hgr
    have := List.any_eq_false.1 hgr.2 x hx
    simp only [DOp.great, Bool.or_eq_true, decide_eq_true_eq, not_or] at this
    omega)
  clear hgr
  by_cases hbig : n > 100
  · by_cases hmax : n ≤ 65536
    · go_wp2_with fail
      all_goals first | exact hr1 | exact fin hr1 rfl
    · have n1 : ¬ n < 1 := by omega
      clear hr1
      go_wp2_with fail
      refine New_bad n (.inr (by omega)) w _ ?_
      go_wp2_with fail
      refine NewR_bad n (.inr (by omega)) w _ (fun w1 hB => ?_)
      have hr := HR.out (w1.alloc (.cells #[.slice none 0 0, .int .i64 0, .bool false, .int .i64 0] 49)) (hB.alloc hB.size _)
      clear hB
      go_wp2_with fail
      all_goals first | exact hr | exact fin hr rfl
  by_cases hsm : n < 1
  · clear hr1
    go_wp2_with fail
    refine New_bad n (.inl hsm) w _ ?_
    go_wp2_with fail
    refine NewR_bad n (.inl hsm) w _ (fun w1 hB => ?_)
    have hr := HR.out (w1.alloc (.cells #[.slice none 0 0, .int .i64 0, .bool false, .int .i64 0] 49)) (hB.alloc hB.size _)
    clear hB
    go_wp2_with fail
    all_goals first | exact hr | exact fin hr rfl
  obtain ⟨m, rfl⟩ := Int.eq_ofNat_of_zero_le (show 0 ≤ n by omega)
  have hm1 : 1 ≤ m := by omega
  have hm100 : m ≤ 100 := by omega
  clear hr1
  go_wp2_with fail
  refine New_ok m hm1 (by omega) w _ (fun w1 db hB1 hdb1 hdb2 hD => ?_)
  have HD := Lib.hid hD
  have HB1 := Lib.hid hB1
  have hz1 := hB1.size
  clear hD hB1
  go_wp2_with fail
  refine NewR_any m hm1 (by omega) w1 _ (fun w2 lv ws hB2 hrows => ?_)
  obtain ⟨pL, cL, rfl⟩ := Own.slice hrows.ol
  have HB2 := Lib.hid hB2
  have Hrows := Lib.hid hrows
  have hz2 := hB2.size
  clear hB2 hrows
  have hb4 := Blk.new w2 [.slice pL ws.length cL, .int .i64 (-1), .bool false, .int .i64 0] 49 rfl
  have hB3 := alloc_below w2 (.cells #[.slice pL ws.length cL, .int .i64 (-1), .bool false, .int .i64 0] 49)
  go_upto_region 5 with fail
  generalize w2.alloc (.cells #[.slice pL ws.length cL, .int .i64 (-1), .bool false, .int .i64 0] 49) = w3 at *
  have hz3 := hB3.size
  have HR3 : Hid (RfAt w3 (fun k => w1.heap.size ≤ k ∧ k < w3.heap.size) w2.heap.size (Dk.fresh m)) := Lib.hid (RowsAt.rf (d := Dk.fresh m) (by rw [rowsOf_fresh]; exact Hrows.out) (by simp [Dk.fresh]) (by simp [Dk.fresh]; omega) (by simp [Dk.fresh]; omega) hB3 (Nat.le_refl _) hz2 hb4)
  have hp0 := Prs.init HD.out HR3.out hz1 (HB2.out.trans (hB3.mono hz2))
  have HB5 := Lib.hid (((HB1.out.trans ((HB2.out.trans (hB3.mono hz2)).mono hz1)).alloc (by omega) (.cells #[.pointer (some ⟨db, 0, none⟩), .pointer (some ⟨w2.heap.size, 0, none⟩)] 55)).alloc (by simp; omega) (.cells #[.pointer (some ⟨w3.heap.size, 0, none⟩)] 52))
  clear hb4 hB3
  go_upto_region 10 with fail
  generalize (w3.alloc (.cells #[.pointer (some ⟨db, 0, none⟩), .pointer (some ⟨w2.heap.size, 0, none⟩)] 55)).alloc (.cells #[.pointer (some ⟨w3.heap.size, 0, none⟩)] 52) = w5 at *
  have HP0 := Lib.hid hp0
  clear hp0 HD HB1 HB2 HR3 Hrows
  go_wp2_with fail
  go_loopw [9, 54] (fun t9 t54 wr => ∃ (i : Nat) (S : Nat → Nat → Prop) (pb : Nat → Nat) (D : Nat → Dk) (N : Nat), i ≤ l.length ∧ t54 = .int .i64 (i : Int) ∧ Below w.heap.size w wr ∧ Prs wr w.heap.size m (4 * i) t9 S pb D N) (fun _ t54 _ => l.length - (intOf t54).toNat)
  case atStart => exact ⟨0, _, _, _, 1, Nat.zero_le _, rfl, HB5.out, HP0.out⟩
  case round =>
    obtain ⟨i, S, pb, D, N, hi1, rfl, hB, hP⟩ := hrel
    obtain ⟨wo, ewo⟩ : ∃ x, x = wr := ⟨_, rfl⟩
    subst ewo
    have HB := Lib.hid hB
    have HP := Lib.hid hP
    have hz := hB.size
    have hN1 := hP.one
    have hN4 := hP.four
    clear hB hP
    by_cases hil : i < l.length
    · have i0 : (0 : Int) ≤ (i : Int) := by omega
      have il : (i : Int) < (l.length : Int) := by omega
      have Hvr := Lib.hid (Sl.below Hv.out opE_loc HB.out hhi)
      obtain ⟨ao', cap', e', -, -, -, hc⟩ := Hvr.out.form
      injection e' with e1 e2 e3
      subst e1 e3
      obtain ⟨b, off, rfl, h1, h2, h3⟩ := hc i hil
      obtain ⟨cs, -, hcs, hE⟩ := h3 i hil
      have hx1 := Hgr.out l[i] (List.getElem_mem hil)
      have hx2 := Hok.out l[i] (List.getElem_mem hil)
      generalize l[i] = x at *
      obtain ⟨kind, xi, xn, data, raw, keep, tn, at'⟩ := x
      obtain ⟨dv, kv, rfl, hdv, hkv⟩ := hE
      simp only at hdv hkv hx1 hx2
      obtain ⟨ad, cd, rfl, -, -, -, -⟩ := hdv.form
      obtain ⟨ak, ck, rfl, -, -, -, -⟩ := hkv.form
      obtain ⟨x0, x1, x2, x3, x4, x5, x6, x7⟩ := hcs.c8
      have Hdv := Lib.hid hdv
      have Hkv := Lib.hid hkv
      obtain ⟨g, c, rfl, hg1, hg2, y0, -⟩ := HP.out.at (k := 0) (by omega)
      clear hcs hc h3 hdv hkv Hvr
      by_cases h8 : kind = 8 ∧ N < 4
      · obtain ⟨rfl, hN⟩ := h8
        have nl : (N : Int) < 4 := by omega
        go_upto_region 14 with fail
        clear x0 x1 x2 x3 x4 x5 x6 x7
        obtain ⟨T0, U0, db0, rb0, hpi⟩ := HP.out.pr 0 (by omega)
        have Hpi := Lib.hid hpi
        obtain ⟨p0, p1⟩ := hpi.cells (w' := wo) rfl
        clear hpi
        go_wp2_with fail
        refine Copy_any T0 db0 (D 0) wo Hpi.out.hd (few_of (HP.out.bd 0 (by omega)) (by omega)) _ (fun wa dbn hBa hdn hDn => ?_)
        have hza := hBa.size
        have HBa := Lib.hid hBa
        have HDn := Lib.hid hDn
        have q0 := (World.cell?_of_block (hBa.block g hg2)).trans y0
        have qpl := Hpi.out.pd.lt
        obtain ⟨p0', p1'⟩ := Hpi.out.cells (w' := wa) (hBa.block _ qpl)
        clear hBa hDn p0 p1 y0
        go_wp2_with fail
        refine CopyR_any U0 rb0 (D 0) wa (Hpi.out.hr.below HBa.out) (few_of (HP.out.bd 0 (by omega)) (by omega)) _ (fun wd lv ws2 hBd hrows => ?_)
        obtain ⟨pL2, cL2, rfl⟩ := Own.slice hrows.ol
        have HBd := Lib.hid hBd
        have Hrows2 := Lib.hid hrows
        have hzd := hBd.size
        clear hBd hrows
        have hb4' := Blk.new wd [.slice pL2 ws2.length cL2, .int .i64 (D 0).fuse, .bool (D 0).down, .int .i64 (D 0).ops] 49 rfl
        have hB4 := alloc_below wd (.cells #[.slice pL2 ws2.length cL2, .int .i64 (D 0).fuse, .bool (D 0).down, .int .i64 (D 0).ops] 49)
        go_upto_region 16 with fail
        generalize wd.alloc (.cells #[.slice pL2 ws2.length cL2, .int .i64 (D 0).fuse, .bool (D 0).down, .int .i64 (D 0).ops] 49) = we at *
        obtain ⟨_, _, _, _, _, hdi⟩ := Hpi.out.hd
        have HRn : Hid (RfAt we (fun k => wa.heap.size ≤ k ∧ k < we.heap.size) wd.heap.size (D 0)) := Lib.hid (RowsAt.rf Hrows2.out hdi.lr hdi.pos hdi.cap hB4 (Nat.le_refl _) hzd hb4')
        have hze := hB4.size
        have HBe := Lib.hid (HBd.out.trans (hB4.mono hzd))
        clear hdi hb4' hB4
        have hpn := Blk.new we [.pointer (some ⟨dbn, 0, none⟩), .pointer (some ⟨wd.heap.size, 0, none⟩)] 55 rfl
        have haw := alloc_below we (.cells #[.pointer (some ⟨dbn, 0, none⟩), .pointer (some ⟨wd.heap.size, 0, none⟩)] 55)
        have hag := alloc_below (we.alloc (.cells #[.pointer (some ⟨dbn, 0, none⟩), .pointer (some ⟨wd.heap.size, 0, none⟩)] 55)) (.cells #[.pointer (some ⟨we.heap.size, 0, none⟩)] 52)
        have hzw : (we.alloc (.cells #[.pointer (some ⟨dbn, 0, none⟩), .pointer (some ⟨wd.heap.size, 0, none⟩)] 55)).heap.size = we.heap.size + 1 := by simp
        have hzw2 : ((we.alloc (.cells #[.pointer (some ⟨dbn, 0, none⟩), .pointer (some ⟨wd.heap.size, 0, none⟩)] 55)).alloc (.cells #[.pointer (some ⟨we.heap.size, 0, none⟩)] 52)).heap.size = we.heap.size + 2 := by simp
        have hcn := CellsAt.newAt (we.alloc (.cells #[.pointer (some ⟨dbn, 0, none⟩), .pointer (some ⟨wd.heap.size, 0, none⟩)] 55)) [.pointer (some ⟨we.heap.size, 0, none⟩)] 52 hzw.symm
        have hBf : Below wo.heap.size wo (we.alloc (.cells #[.pointer (some ⟨dbn, 0, none⟩), .pointer (some ⟨wd.heap.size, 0, none⟩)] 55)) := HBa.out.trans ((HBe.out.trans (haw.mono (by omega))).mono hza)
        have hB6 := Lib.hid (hBf.trans (hag.mono (by rw [hzw]; omega)))
        have hPP : PrAt (we.alloc (.cells #[.pointer (some ⟨dbn, 0, none⟩), .pointer (some ⟨wd.heap.size, 0, none⟩)] 55)) (fun k => wo.heap.size ≤ k ∧ k < we.heap.size + 1) we.heap.size (D 0) := by
          refine ⟨fun k => wo.heap.size ≤ k ∧ k < wa.heap.size, fun k => wa.heap.size ≤ k ∧ k < we.heap.size, dbn, wd.heap.size, ?_⟩
          exact {
            pd := hpn
            sp := ⟨by omega, by omega⟩
            hd := (HDn.out.below HBe.out).below haw
            hr := HRn.out.below haw
            t := fun k e => ⟨⟨e.1, by omega⟩, by omega, fun e2 => by omega⟩
            u := fun k e => ⟨⟨by omega, by omega⟩, by omega⟩
            lt := fun k e => by rw [hzw]; exact e.2 }
        have HPP := Lib.hid hPP
        have hO := Own.same HP.out.o (fun q e => hB6.out.block q (Own.lt HP.out.o q e).2)
        have hlo6 : w.heap.size ≤ ((we.alloc (.cells #[.pointer (some ⟨dbn, 0, none⟩), .pointer (some ⟨wd.heap.size, 0, none⟩)] 55)).alloc (.cells #[.pointer (some ⟨we.heap.size, 0, none⟩)] 52)).heap.size := by rw [hzw2]; omega
        obtain ⟨v', w', hrun, ho, ha⟩ := appP1 hO hcn (by simp [ptrs]; omega) hlo6
        have hPP' := HPP.out.only (A := fun _ => False) (Below.only hag) (fun _ _ e => e)
        have hPn := HP.out.add hN hz hB6.out hPP' (fun q e => e.1) (HP.out.bd 0 (by omega)) (HP.out.ln 0 (by omega)) ho ha
        have HPn := Lib.hid (hPn.mono (m' := 4 * (i + 1)) (by omega))
        have HBn := Lib.hid (HB.out.trans ((hB6.out.mono hz).trans (ha.below hlo6 (fun k hk => (Own.lt hO k hk).1))))
        clear ho ha hPP' hPn hcn hag haw hpn
        go_wp2_with (at_builtin; refine AtApp.of ?_)
        refine AtApp.go hrun rfl rfl rfl rfl ?_
        clear hrun
        go_wp2_with fail
        go_roundw
        case rel => exact ⟨i + 1, _, _, _, _, by omega, by go_num, HBn.out, HPn.out⟩
        case measure => first | (simp [intOf]; done) | (simp [intOf]; omega)
      · by_cases hk8 : kind = 8
        · have nl : ¬ (N : Int) < 4 := by omega
          go_upto_region 17 with fail
          clear x0 x1 x2 x3 x4 x5 x6 x7 y0 Hdv Hkv hx1 hx2 h8 hk8
          go_wp2_with fail
          go_loopw [90] (fun tk wr => ∃ (k : Nat) (S : Nat → Nat → Prop) (D : Nat → Dk), k ≤ N ∧ tk = .int .i64 (k : Int) ∧ Below w.heap.size w wr ∧ Prs wr w.heap.size m (4 * i + k) (.slice (some ⟨g, 0, none⟩) N c) S pb D N) (fun tk _ => N - (intOf tk).toNat)
          case atStart => exact ⟨0, _, _, Nat.zero_le _, rfl, HB.out, HP.out⟩
          case round =>
            obtain ⟨k, S1, D1, hk1, rfl, hBk, hPk⟩ := hrel
            obtain ⟨wk, ewk⟩ : ∃ x, x = wr := ⟨_, rfl⟩
            subst ewk
            have HBk := Lib.hid hBk
            have HPk := Lib.hid hPk
            have hzk := hBk.size
            clear hBk hPk
            have k0 : (0 : Int) ≤ (k : Int) := by omega
            by_cases hkN : k < N
            · have kl : (k : Int) < (N : Int) := by omega
              have Hvr := Lib.hid (Sl.below Hv.out opE_loc HBk.out hhi)
              obtain ⟨ao', cap', e', -, -, -, hc⟩ := Hvr.out.form
              injection e' with e1 e2 e3
              subst e1 e3
              obtain ⟨b', off', eb, h1', h2', h3⟩ := hc i hil
              injection eb with eb
              injection eb with eb eo
              subst eb eo
              obtain ⟨cs, -, hcs, hE⟩ := h3 i hil
              have hx1 := Hgr.out l[i] (List.getElem_mem hil)
              have hx2 := Hok.out l[i] (List.getElem_mem hil)
              generalize l[i] = x at *
              obtain ⟨kind, xi, xn, data, raw, keep, tn, at'⟩ := x
              have HE := Lib.hid hE
              obtain ⟨dv, kv, rfl, hdv, hkv⟩ := hE
              obtain ⟨ad, cd, rfl, -, -, -, -⟩ := hdv.form
              obtain ⟨ak, ck, rfl, -, -, -, -⟩ := hkv.form
              obtain ⟨x0, x1, x2, x3, x4, x5, x6, x7⟩ := hcs.c8
              obtain ⟨g7, c7, e7, hg7, hg8, y7, hy7⟩ := HPk.out.at hkN
              injection e7 with e7 e7' e7''
              injection e7 with e7
              injection e7 with e7
              subst e7 e7''
              have hsg : ¬ S1 k g := fun e => hy7 k g hkN e rfl
              have hbw : b < wk.heap.size := by omega
              have hsb : ¬ S1 k b := fun e => by have := HPk.out.ge k b hkN e; omega
              clear hcs hc h3 hdv hkv Hvr e7' hy7
              simp only at hx1 hx2
              have N0 : ¬ (N : Int) = 0 := by omega
              have N1 : (0 : Int) < (N : Int) := by omega
              have N2 : ¬ N = 0 := by omega
              have hs0 : (0 : Int) ≤ (i : Int) + (k : Int) := by omega
              obtain ⟨r, er⟩ : ∃ r, r = (i + k) % N := ⟨_, rfl⟩
              have hmod : ((i + k : Nat) : Int) % (N : Int) = (r : Int) := by rw [er]; rfl
              have hmod2 : ((i + k : Nat) : Int).tmod (N : Int) = (r : Int) := by rw [er, Int.tmod_eq_emod_of_nonneg (by omega)]; rfl
              have hmod3 : ((i : Int) + (k : Int)).tmod (N : Int) = (r : Int) := by rw [show (i : Int) + (k : Int) = ((i + k : Nat) : Int) by omega]; exact hmod2
              have hrN : r < N := by rw [er]; exact Nat.mod_lt _ (by omega)
              clear er
              by_cases hr0 : r = 0
              · subst hr0
                go_upto_region 21 with fail
                have HPd := Lib.hid (HPk.out.below (Below.drew (Below.refl _ _)))
                have HBd : Hid (Below w.heap.size w wk.drew) := Lib.hid (Below.drew HBk.out)
                have HEd : Hid (opE lo hi wk.drew _ _) := Lib.hid (opE_loc.agree HE.out (fun _ _ _ => rfl))
                have hhd : hi ≤ wk.drew.heap.size := Nat.le_trans hhi hzk
                refine wp_region_held_drew (S := fun w' => Only (S1 k) wk w') (by kernel_rfl) (Only.drew wk) (fun hHeld => ?_)
                refine wpAnyH_take (i := 0) (v := .slice (some ⟨g, 0, none⟩) N c) rfl (by kernel_rfl) (by kernel_rfl) (by kernel_rfl) (fun _ _ _ h => h) (Or.inl ⟨by rfl, ?_⟩) hHeld ?_
                · intro w' hSw; go_simp
                try simp only [Act.put, List.getElem_toArray, List.getElem_cons_succ, List.getElem_cons_zero, List.setIfInBounds_toArray, List.set_cons_zero, List.set_cons_succ]
                refine wpAnyH_take (i := 1) (v := .int .i64 ((k : Int))) rfl (by kernel_rfl) (by kernel_rfl) (by kernel_rfl) (fun _ _ _ h => h) (Or.inl ⟨by rfl, ?_⟩) hHeld ?_
                · intro w' hSw; go_simp
                try simp only [Act.put, List.getElem_toArray, List.getElem_cons_succ, List.getElem_cons_zero, List.setIfInBounds_toArray, List.set_cons_zero, List.set_cons_succ]
                refine wpAnyH_take (i := 2) (v := .pointer (some ⟨g, k, none⟩)) rfl (by kernel_rfl) (by kernel_rfl) (by kernel_rfl) (fun _ _ _ h => h) (Or.inl ⟨by rfl, ?_⟩) hHeld ?_
                · intro w' hSw; go_simp
                try simp only [Act.put, List.getElem_toArray, List.getElem_cons_succ, List.getElem_cons_zero, List.setIfInBounds_toArray, List.set_cons_zero, List.set_cons_succ]
                refine wpAnyH_take (i := 3) (v := .pointer (some ⟨pb k, 0, none⟩)) rfl (by kernel_rfl) (by kernel_rfl) (by kernel_rfl) (fun _ _ _ h => h) (Or.inl ⟨by rfl, ?_⟩) hHeld ?_
                · intro w' hSw; have kx := (World.cell?_of_block (hSw.block g hg8 hsg)).trans y7; go_simp
                try simp only [Act.put, List.getElem_toArray, List.getElem_cons_succ, List.getElem_cons_zero, List.setIfInBounds_toArray, List.set_cons_zero, List.set_cons_succ]
                refine wpAnyH_take (i := 4) (v := .slice (some ⟨b, off, none⟩) l.length cap) rfl (by kernel_rfl) (by kernel_rfl) (by kernel_rfl) (fun _ _ _ h => h) (Or.inl ⟨by rfl, ?_⟩) hHeld ?_
                · intro w' hSw; go_simp
                try simp only [Act.put, List.getElem_toArray, List.getElem_cons_succ, List.getElem_cons_zero, List.setIfInBounds_toArray, List.set_cons_zero, List.set_cons_succ]
                refine wpAnyH_take (i := 5) (v := .int .i64 ((i : Int))) rfl (by kernel_rfl) (by kernel_rfl) (by kernel_rfl) (fun _ _ _ h => h) (Or.inl ⟨by rfl, ?_⟩) hHeld ?_
                · intro w' hSw; go_simp
                try simp only [Act.put, List.getElem_toArray, List.getElem_cons_succ, List.getElem_cons_zero, List.setIfInBounds_toArray, List.set_cons_zero, List.set_cons_succ]
                refine wpAnyH_take (i := 6) (v := .pointer (some ⟨b, off + i * 8, none⟩)) rfl (by kernel_rfl) (by kernel_rfl) (by kernel_rfl) (fun _ _ _ h => h) (Or.inl ⟨by rfl, ?_⟩) hHeld ?_
                · intro w' hSw; go_simp
                try simp only [Act.put, List.getElem_toArray, List.getElem_cons_succ, List.getElem_cons_zero, List.setIfInBounds_toArray, List.set_cons_zero, List.set_cons_succ]
                refine wpAnyH_take (i := 7) (v := .agg #[.int .i64 kind, .int .i64 xi, .int .i64 xn, .slice ad data.length cd, .bool raw, .slice ak keep.length ck, .int .i64 tn, .int .i64 (at')]) rfl (by kernel_rfl) (by kernel_rfl) (by kernel_rfl) (fun _ _ _ h => h) (Or.inl ⟨by rfl, ?_⟩) hHeld ?_
                · intro w' hSw; have k0 := (World.cell?_of_block (hSw.block b hbw hsb)).trans x0; have k1 := (World.cell?_of_block (hSw.block b hbw hsb)).trans x1; have k2 := (World.cell?_of_block (hSw.block b hbw hsb)).trans x2; have k3 := (World.cell?_of_block (hSw.block b hbw hsb)).trans x3; have k4 := (World.cell?_of_block (hSw.block b hbw hsb)).trans x4; have k5 := (World.cell?_of_block (hSw.block b hbw hsb)).trans x5; have k6 := (World.cell?_of_block (hSw.block b hbw hsb)).trans x6; have k7 := (World.cell?_of_block (hSw.block b hbw hsb)).trans x7; go_simp
                try simp only [Act.put, List.getElem_toArray, List.getElem_cons_succ, List.getElem_cons_zero, List.setIfInBounds_toArray, List.set_cons_zero, List.set_cons_succ]
                refine wpAnyH_ready (rs := [8]) (by kernel_rfl) (by simp) ?_
                refine allCall (f := 22) (args := #[.pointer (some ⟨pb k, 0, none⟩), .agg #[.int .i64 kind, .int .i64 xi, .int .i64 xn, .slice ad data.length cd, .bool raw, .slice ak keep.length ck, .int .i64 tn, .int .i64 (at')]]) rfl (by kernel_rfl) (by kernel_rfl) ?_ AllReadyH.nil
                refine do_any (S1 k) lo hi _ _ _ ⟨kind, xi, xn, data, raw, keep, tn, at'⟩ _ wk.drew (HPd.out.pr k hkN) (HPd.out.bd k hkN) (by omega) HEd.out hhd (fun q e => .inr (by have := HPd.out.ge k q hkN e; omega)) hx1 _ (fun w7 hO7 hQ7 => ?_)
                have HP7 := Lib.hid (HPd.out.step hkN hzk hO7 _ hx2 hQ7)
                have hB7 := HBd.out.trans (hO7.below hzk (fun q e => HPd.out.ge k q hkN e))
                have hO8 : Only (S1 k) wk w7 := (Only.drew wk).trans hO7
                have HB7 := Lib.hid hB7
                clear hO7 hQ7 hB7 hHeld
                refine ⟨_, rfl, hO8, ?_⟩
                have hHeld := hO8
                clear hO8
                try simp only [Act.put, List.getElem_toArray, List.getElem_cons_succ, List.getElem_cons_zero, List.setIfInBounds_toArray, List.set_cons_zero, List.set_cons_succ]
                refine wpAnyH_take (i := 9) (v := .bool false) rfl (by kernel_rfl) (by kernel_rfl) (by kernel_rfl) (fun _ _ _ h => h) (Or.inl ⟨by rfl, ?_⟩) hHeld ?_
                · intro w' hSw; go_simp
                try simp only [Act.put, List.getElem_toArray, List.getElem_cons_succ, List.getElem_cons_zero, List.setIfInBounds_toArray, List.set_cons_zero, List.set_cons_succ]
                refine wpAnyH_done (by kernel_rfl) ?_ _
                clear hHeld
                go_wp2_with fail
                go_roundw
                case rel => exact ⟨k + 1, _, _, by omega, by go_num, HB7.out, HP7.out⟩
                case measure => first | (simp [intOf]; done) | (simp [intOf]; omega)
              have r0 : ¬ (r : Int) = 0 := by omega
              by_cases hk6 : 6 ≤ kind
              · have k6 : ¬ kind < 6 := by omega
                go_upto_region 21 with fail
                have HPd := Lib.hid (HPk.out.below (Below.drew (Below.refl _ _)))
                have HBd : Hid (Below w.heap.size w wk.drew) := Lib.hid (Below.drew HBk.out)
                have HEd : Hid (opE lo hi wk.drew _ _) := Lib.hid (opE_loc.agree HE.out (fun _ _ _ => rfl))
                have hhd : hi ≤ wk.drew.heap.size := Nat.le_trans hhi hzk
                refine wp_region_held_drew (S := fun w' => Only (S1 k) wk w') (by kernel_rfl) (Only.drew wk) (fun hHeld => ?_)
                refine wpAnyH_take (i := 0) (v := .slice (some ⟨g, 0, none⟩) N c) rfl (by kernel_rfl) (by kernel_rfl) (by kernel_rfl) (fun _ _ _ h => h) (Or.inl ⟨by rfl, ?_⟩) hHeld ?_
                · intro w' hSw; go_simp
                try simp only [Act.put, List.getElem_toArray, List.getElem_cons_succ, List.getElem_cons_zero, List.setIfInBounds_toArray, List.set_cons_zero, List.set_cons_succ]
                refine wpAnyH_take (i := 1) (v := .int .i64 ((k : Int))) rfl (by kernel_rfl) (by kernel_rfl) (by kernel_rfl) (fun _ _ _ h => h) (Or.inl ⟨by rfl, ?_⟩) hHeld ?_
                · intro w' hSw; go_simp
                try simp only [Act.put, List.getElem_toArray, List.getElem_cons_succ, List.getElem_cons_zero, List.setIfInBounds_toArray, List.set_cons_zero, List.set_cons_succ]
                refine wpAnyH_take (i := 2) (v := .pointer (some ⟨g, k, none⟩)) rfl (by kernel_rfl) (by kernel_rfl) (by kernel_rfl) (fun _ _ _ h => h) (Or.inl ⟨by rfl, ?_⟩) hHeld ?_
                · intro w' hSw; go_simp
                try simp only [Act.put, List.getElem_toArray, List.getElem_cons_succ, List.getElem_cons_zero, List.setIfInBounds_toArray, List.set_cons_zero, List.set_cons_succ]
                refine wpAnyH_take (i := 3) (v := .pointer (some ⟨pb k, 0, none⟩)) rfl (by kernel_rfl) (by kernel_rfl) (by kernel_rfl) (fun _ _ _ h => h) (Or.inl ⟨by rfl, ?_⟩) hHeld ?_
                · intro w' hSw; have kx := (World.cell?_of_block (hSw.block g hg8 hsg)).trans y7; go_simp
                try simp only [Act.put, List.getElem_toArray, List.getElem_cons_succ, List.getElem_cons_zero, List.setIfInBounds_toArray, List.set_cons_zero, List.set_cons_succ]
                refine wpAnyH_take (i := 4) (v := .slice (some ⟨b, off, none⟩) l.length cap) rfl (by kernel_rfl) (by kernel_rfl) (by kernel_rfl) (fun _ _ _ h => h) (Or.inl ⟨by rfl, ?_⟩) hHeld ?_
                · intro w' hSw; go_simp
                try simp only [Act.put, List.getElem_toArray, List.getElem_cons_succ, List.getElem_cons_zero, List.setIfInBounds_toArray, List.set_cons_zero, List.set_cons_succ]
                refine wpAnyH_take (i := 5) (v := .int .i64 ((i : Int))) rfl (by kernel_rfl) (by kernel_rfl) (by kernel_rfl) (fun _ _ _ h => h) (Or.inl ⟨by rfl, ?_⟩) hHeld ?_
                · intro w' hSw; go_simp
                try simp only [Act.put, List.getElem_toArray, List.getElem_cons_succ, List.getElem_cons_zero, List.setIfInBounds_toArray, List.set_cons_zero, List.set_cons_succ]
                refine wpAnyH_take (i := 6) (v := .pointer (some ⟨b, off + i * 8, none⟩)) rfl (by kernel_rfl) (by kernel_rfl) (by kernel_rfl) (fun _ _ _ h => h) (Or.inl ⟨by rfl, ?_⟩) hHeld ?_
                · intro w' hSw; go_simp
                try simp only [Act.put, List.getElem_toArray, List.getElem_cons_succ, List.getElem_cons_zero, List.setIfInBounds_toArray, List.set_cons_zero, List.set_cons_succ]
                refine wpAnyH_take (i := 7) (v := .agg #[.int .i64 kind, .int .i64 xi, .int .i64 xn, .slice ad data.length cd, .bool raw, .slice ak keep.length ck, .int .i64 tn, .int .i64 (at')]) rfl (by kernel_rfl) (by kernel_rfl) (by kernel_rfl) (fun _ _ _ h => h) (Or.inl ⟨by rfl, ?_⟩) hHeld ?_
                · intro w' hSw; have k0 := (World.cell?_of_block (hSw.block b hbw hsb)).trans x0; have k1 := (World.cell?_of_block (hSw.block b hbw hsb)).trans x1; have k2 := (World.cell?_of_block (hSw.block b hbw hsb)).trans x2; have k3 := (World.cell?_of_block (hSw.block b hbw hsb)).trans x3; have k4 := (World.cell?_of_block (hSw.block b hbw hsb)).trans x4; have k5 := (World.cell?_of_block (hSw.block b hbw hsb)).trans x5; have k6 := (World.cell?_of_block (hSw.block b hbw hsb)).trans x6; have k7 := (World.cell?_of_block (hSw.block b hbw hsb)).trans x7; go_simp
                try simp only [Act.put, List.getElem_toArray, List.getElem_cons_succ, List.getElem_cons_zero, List.setIfInBounds_toArray, List.set_cons_zero, List.set_cons_succ]
                refine wpAnyH_ready (rs := [8]) (by kernel_rfl) (by simp) ?_
                refine allCall (f := 22) (args := #[.pointer (some ⟨pb k, 0, none⟩), .agg #[.int .i64 kind, .int .i64 xi, .int .i64 xn, .slice ad data.length cd, .bool raw, .slice ak keep.length ck, .int .i64 tn, .int .i64 (at')]]) rfl (by kernel_rfl) (by kernel_rfl) ?_ AllReadyH.nil
                refine do_any (S1 k) lo hi _ _ _ ⟨kind, xi, xn, data, raw, keep, tn, at'⟩ _ wk.drew (HPd.out.pr k hkN) (HPd.out.bd k hkN) (by omega) HEd.out hhd (fun q e => .inr (by have := HPd.out.ge k q hkN e; omega)) hx1 _ (fun w7 hO7 hQ7 => ?_)
                have HP7 := Lib.hid (HPd.out.step hkN hzk hO7 _ hx2 hQ7)
                have hB7 := HBd.out.trans (hO7.below hzk (fun q e => HPd.out.ge k q hkN e))
                have hO8 : Only (S1 k) wk w7 := (Only.drew wk).trans hO7
                have HB7 := Lib.hid hB7
                clear hO7 hQ7 hB7 hHeld
                refine ⟨_, rfl, hO8, ?_⟩
                have hHeld := hO8
                clear hO8
                try simp only [Act.put, List.getElem_toArray, List.getElem_cons_succ, List.getElem_cons_zero, List.setIfInBounds_toArray, List.set_cons_zero, List.set_cons_succ]
                refine wpAnyH_take (i := 9) (v := .bool false) rfl (by kernel_rfl) (by kernel_rfl) (by kernel_rfl) (fun _ _ _ h => h) (Or.inl ⟨by rfl, ?_⟩) hHeld ?_
                · intro w' hSw; go_simp
                try simp only [Act.put, List.getElem_toArray, List.getElem_cons_succ, List.getElem_cons_zero, List.setIfInBounds_toArray, List.set_cons_zero, List.set_cons_succ]
                refine wpAnyH_done (by kernel_rfl) ?_ _
                clear hHeld
                go_wp2_with fail
                go_roundw
                case rel => exact ⟨k + 1, _, _, by omega, by go_num, HB7.out, HP7.out⟩
                case measure => first | (simp [intOf]; done) | (simp [intOf]; omega)
              have k6 : kind < 6 := by omega
              by_cases hN2 : N ≤ 2
              · have n2 : ¬ (2 : Int) < (N : Int) := by omega
                go_upto_region 21 with fail
                have HPd := Lib.hid (HPk.out.below (Below.drew (Below.refl _ _)))
                have HBd : Hid (Below w.heap.size w wk.drew) := Lib.hid (Below.drew HBk.out)
                have HEd : Hid (opE lo hi wk.drew _ _) := Lib.hid (opE_loc.agree HE.out (fun _ _ _ => rfl))
                have hhd : hi ≤ wk.drew.heap.size := Nat.le_trans hhi hzk
                refine wp_region_held_drew (S := fun w' => Only (S1 k) wk w') (by kernel_rfl) (Only.drew wk) (fun hHeld => ?_)
                refine wpAnyH_take (i := 0) (v := .slice (some ⟨g, 0, none⟩) N c) rfl (by kernel_rfl) (by kernel_rfl) (by kernel_rfl) (fun _ _ _ h => h) (Or.inl ⟨by rfl, ?_⟩) hHeld ?_
                · intro w' hSw; go_simp
                try simp only [Act.put, List.getElem_toArray, List.getElem_cons_succ, List.getElem_cons_zero, List.setIfInBounds_toArray, List.set_cons_zero, List.set_cons_succ]
                refine wpAnyH_take (i := 1) (v := .int .i64 ((k : Int))) rfl (by kernel_rfl) (by kernel_rfl) (by kernel_rfl) (fun _ _ _ h => h) (Or.inl ⟨by rfl, ?_⟩) hHeld ?_
                · intro w' hSw; go_simp
                try simp only [Act.put, List.getElem_toArray, List.getElem_cons_succ, List.getElem_cons_zero, List.setIfInBounds_toArray, List.set_cons_zero, List.set_cons_succ]
                refine wpAnyH_take (i := 2) (v := .pointer (some ⟨g, k, none⟩)) rfl (by kernel_rfl) (by kernel_rfl) (by kernel_rfl) (fun _ _ _ h => h) (Or.inl ⟨by rfl, ?_⟩) hHeld ?_
                · intro w' hSw; go_simp
                try simp only [Act.put, List.getElem_toArray, List.getElem_cons_succ, List.getElem_cons_zero, List.setIfInBounds_toArray, List.set_cons_zero, List.set_cons_succ]
                refine wpAnyH_take (i := 3) (v := .pointer (some ⟨pb k, 0, none⟩)) rfl (by kernel_rfl) (by kernel_rfl) (by kernel_rfl) (fun _ _ _ h => h) (Or.inl ⟨by rfl, ?_⟩) hHeld ?_
                · intro w' hSw; have kx := (World.cell?_of_block (hSw.block g hg8 hsg)).trans y7; go_simp
                try simp only [Act.put, List.getElem_toArray, List.getElem_cons_succ, List.getElem_cons_zero, List.setIfInBounds_toArray, List.set_cons_zero, List.set_cons_succ]
                refine wpAnyH_take (i := 4) (v := .slice (some ⟨b, off, none⟩) l.length cap) rfl (by kernel_rfl) (by kernel_rfl) (by kernel_rfl) (fun _ _ _ h => h) (Or.inl ⟨by rfl, ?_⟩) hHeld ?_
                · intro w' hSw; go_simp
                try simp only [Act.put, List.getElem_toArray, List.getElem_cons_succ, List.getElem_cons_zero, List.setIfInBounds_toArray, List.set_cons_zero, List.set_cons_succ]
                refine wpAnyH_take (i := 5) (v := .int .i64 ((i : Int))) rfl (by kernel_rfl) (by kernel_rfl) (by kernel_rfl) (fun _ _ _ h => h) (Or.inl ⟨by rfl, ?_⟩) hHeld ?_
                · intro w' hSw; go_simp
                try simp only [Act.put, List.getElem_toArray, List.getElem_cons_succ, List.getElem_cons_zero, List.setIfInBounds_toArray, List.set_cons_zero, List.set_cons_succ]
                refine wpAnyH_take (i := 6) (v := .pointer (some ⟨b, off + i * 8, none⟩)) rfl (by kernel_rfl) (by kernel_rfl) (by kernel_rfl) (fun _ _ _ h => h) (Or.inl ⟨by rfl, ?_⟩) hHeld ?_
                · intro w' hSw; go_simp
                try simp only [Act.put, List.getElem_toArray, List.getElem_cons_succ, List.getElem_cons_zero, List.setIfInBounds_toArray, List.set_cons_zero, List.set_cons_succ]
                refine wpAnyH_take (i := 7) (v := .agg #[.int .i64 kind, .int .i64 xi, .int .i64 xn, .slice ad data.length cd, .bool raw, .slice ak keep.length ck, .int .i64 tn, .int .i64 (at')]) rfl (by kernel_rfl) (by kernel_rfl) (by kernel_rfl) (fun _ _ _ h => h) (Or.inl ⟨by rfl, ?_⟩) hHeld ?_
                · intro w' hSw; have k0 := (World.cell?_of_block (hSw.block b hbw hsb)).trans x0; have k1 := (World.cell?_of_block (hSw.block b hbw hsb)).trans x1; have k2 := (World.cell?_of_block (hSw.block b hbw hsb)).trans x2; have k3 := (World.cell?_of_block (hSw.block b hbw hsb)).trans x3; have k4 := (World.cell?_of_block (hSw.block b hbw hsb)).trans x4; have k5 := (World.cell?_of_block (hSw.block b hbw hsb)).trans x5; have k6 := (World.cell?_of_block (hSw.block b hbw hsb)).trans x6; have k7 := (World.cell?_of_block (hSw.block b hbw hsb)).trans x7; go_simp
                try simp only [Act.put, List.getElem_toArray, List.getElem_cons_succ, List.getElem_cons_zero, List.setIfInBounds_toArray, List.set_cons_zero, List.set_cons_succ]
                refine wpAnyH_ready (rs := [8]) (by kernel_rfl) (by simp) ?_
                refine allCall (f := 22) (args := #[.pointer (some ⟨pb k, 0, none⟩), .agg #[.int .i64 kind, .int .i64 xi, .int .i64 xn, .slice ad data.length cd, .bool raw, .slice ak keep.length ck, .int .i64 tn, .int .i64 (at')]]) rfl (by kernel_rfl) (by kernel_rfl) ?_ AllReadyH.nil
                refine do_any (S1 k) lo hi _ _ _ ⟨kind, xi, xn, data, raw, keep, tn, at'⟩ _ wk.drew (HPd.out.pr k hkN) (HPd.out.bd k hkN) (by omega) HEd.out hhd (fun q e => .inr (by have := HPd.out.ge k q hkN e; omega)) hx1 _ (fun w7 hO7 hQ7 => ?_)
                have HP7 := Lib.hid (HPd.out.step hkN hzk hO7 _ hx2 hQ7)
                have hB7 := HBd.out.trans (hO7.below hzk (fun q e => HPd.out.ge k q hkN e))
                have hO8 : Only (S1 k) wk w7 := (Only.drew wk).trans hO7
                have HB7 := Lib.hid hB7
                clear hO7 hQ7 hB7 hHeld
                refine ⟨_, rfl, hO8, ?_⟩
                have hHeld := hO8
                clear hO8
                try simp only [Act.put, List.getElem_toArray, List.getElem_cons_succ, List.getElem_cons_zero, List.setIfInBounds_toArray, List.set_cons_zero, List.set_cons_succ]
                refine wpAnyH_take (i := 9) (v := .bool false) rfl (by kernel_rfl) (by kernel_rfl) (by kernel_rfl) (fun _ _ _ h => h) (Or.inl ⟨by rfl, ?_⟩) hHeld ?_
                · intro w' hSw; go_simp
                try simp only [Act.put, List.getElem_toArray, List.getElem_cons_succ, List.getElem_cons_zero, List.setIfInBounds_toArray, List.set_cons_zero, List.set_cons_succ]
                refine wpAnyH_done (by kernel_rfl) ?_ _
                clear hHeld
                go_wp2_with fail
                go_roundw
                case rel => exact ⟨k + 1, _, _, by omega, by go_num, HB7.out, HP7.out⟩
                case measure => first | (simp [intOf]; done) | (simp [intOf]; omega)
              have n2 : (2 : Int) < (N : Int) := by omega
              go_wp2_with fail
              go_roundw
              case rel => exact ⟨k + 1, S1, D1, by omega, by go_num, HBk.out, HPk.out.mono (by omega)⟩
              case measure => first | (simp [intOf]; done) | (simp [intOf]; omega)
            · obtain rfl : k = N := by omega
              have kl : ¬ (k : Int) < (k : Int) := by omega
              go_wp2_with fail
              go_roundw
              case rel => exact ⟨i + 1, _, _, _, _, by omega, by go_num, HBk.out, HPk.out.mono (by omega)⟩
              case measure => first | (simp [intOf]; done) | (simp [intOf]; omega)
        · go_upto_region 17 with fail
          clear x0 x1 x2 x3 x4 x5 x6 x7 y0 Hdv Hkv hx1 hx2 h8 hk8
          go_wp2_with fail
          go_loopw [90] (fun tk wr => ∃ (k : Nat) (S : Nat → Nat → Prop) (D : Nat → Dk), k ≤ N ∧ tk = .int .i64 (k : Int) ∧ Below w.heap.size w wr ∧ Prs wr w.heap.size m (4 * i + k) (.slice (some ⟨g, 0, none⟩) N c) S pb D N) (fun tk _ => N - (intOf tk).toNat)
          case atStart => exact ⟨0, _, _, Nat.zero_le _, rfl, HB.out, HP.out⟩
          case round =>
            obtain ⟨k, S1, D1, hk1, rfl, hBk, hPk⟩ := hrel
            obtain ⟨wk, ewk⟩ : ∃ x, x = wr := ⟨_, rfl⟩
            subst ewk
            have HBk := Lib.hid hBk
            have HPk := Lib.hid hPk
            have hzk := hBk.size
            clear hBk hPk
            have k0 : (0 : Int) ≤ (k : Int) := by omega
            by_cases hkN : k < N
            · have kl : (k : Int) < (N : Int) := by omega
              have Hvr := Lib.hid (Sl.below Hv.out opE_loc HBk.out hhi)
              obtain ⟨ao', cap', e', -, -, -, hc⟩ := Hvr.out.form
              injection e' with e1 e2 e3
              subst e1 e3
              obtain ⟨b', off', eb, h1', h2', h3⟩ := hc i hil
              injection eb with eb
              injection eb with eb eo
              subst eb eo
              obtain ⟨cs, -, hcs, hE⟩ := h3 i hil
              have hx1 := Hgr.out l[i] (List.getElem_mem hil)
              have hx2 := Hok.out l[i] (List.getElem_mem hil)
              generalize l[i] = x at *
              obtain ⟨kind, xi, xn, data, raw, keep, tn, at'⟩ := x
              have HE := Lib.hid hE
              obtain ⟨dv, kv, rfl, hdv, hkv⟩ := hE
              obtain ⟨ad, cd, rfl, -, -, -, -⟩ := hdv.form
              obtain ⟨ak, ck, rfl, -, -, -, -⟩ := hkv.form
              obtain ⟨x0, x1, x2, x3, x4, x5, x6, x7⟩ := hcs.c8
              obtain ⟨g7, c7, e7, hg7, hg8, y7, hy7⟩ := HPk.out.at hkN
              injection e7 with e7 e7' e7''
              injection e7 with e7
              injection e7 with e7
              subst e7 e7''
              have hsg : ¬ S1 k g := fun e => hy7 k g hkN e rfl
              have hbw : b < wk.heap.size := by omega
              have hsb : ¬ S1 k b := fun e => by have := HPk.out.ge k b hkN e; omega
              clear hcs hc h3 hdv hkv Hvr e7' hy7
              simp only at hx1 hx2
              have N0 : ¬ (N : Int) = 0 := by omega
              have N1 : (0 : Int) < (N : Int) := by omega
              have N2 : ¬ N = 0 := by omega
              have hs0 : (0 : Int) ≤ (i : Int) + (k : Int) := by omega
              obtain ⟨r, er⟩ : ∃ r, r = (i + k) % N := ⟨_, rfl⟩
              have hmod : ((i + k : Nat) : Int) % (N : Int) = (r : Int) := by rw [er]; rfl
              have hmod2 : ((i + k : Nat) : Int).tmod (N : Int) = (r : Int) := by rw [er, Int.tmod_eq_emod_of_nonneg (by omega)]; rfl
              have hmod3 : ((i : Int) + (k : Int)).tmod (N : Int) = (r : Int) := by rw [show (i : Int) + (k : Int) = ((i + k : Nat) : Int) by omega]; exact hmod2
              have hrN : r < N := by rw [er]; exact Nat.mod_lt _ (by omega)
              clear er
              by_cases hr0 : r = 0
              · subst hr0
                go_upto_region 21 with fail
                have HPd := Lib.hid (HPk.out.below (Below.drew (Below.refl _ _)))
                have HBd : Hid (Below w.heap.size w wk.drew) := Lib.hid (Below.drew HBk.out)
                have HEd : Hid (opE lo hi wk.drew _ _) := Lib.hid (opE_loc.agree HE.out (fun _ _ _ => rfl))
                have hhd : hi ≤ wk.drew.heap.size := Nat.le_trans hhi hzk
                refine wp_region_held_drew (S := fun w' => Only (S1 k) wk w') (by kernel_rfl) (Only.drew wk) (fun hHeld => ?_)
                refine wpAnyH_take (i := 0) (v := .slice (some ⟨g, 0, none⟩) N c) rfl (by kernel_rfl) (by kernel_rfl) (by kernel_rfl) (fun _ _ _ h => h) (Or.inl ⟨by rfl, ?_⟩) hHeld ?_
                · intro w' hSw; go_simp
                try simp only [Act.put, List.getElem_toArray, List.getElem_cons_succ, List.getElem_cons_zero, List.setIfInBounds_toArray, List.set_cons_zero, List.set_cons_succ]
                refine wpAnyH_take (i := 1) (v := .int .i64 ((k : Int))) rfl (by kernel_rfl) (by kernel_rfl) (by kernel_rfl) (fun _ _ _ h => h) (Or.inl ⟨by rfl, ?_⟩) hHeld ?_
                · intro w' hSw; go_simp
                try simp only [Act.put, List.getElem_toArray, List.getElem_cons_succ, List.getElem_cons_zero, List.setIfInBounds_toArray, List.set_cons_zero, List.set_cons_succ]
                refine wpAnyH_take (i := 2) (v := .pointer (some ⟨g, k, none⟩)) rfl (by kernel_rfl) (by kernel_rfl) (by kernel_rfl) (fun _ _ _ h => h) (Or.inl ⟨by rfl, ?_⟩) hHeld ?_
                · intro w' hSw; go_simp
                try simp only [Act.put, List.getElem_toArray, List.getElem_cons_succ, List.getElem_cons_zero, List.setIfInBounds_toArray, List.set_cons_zero, List.set_cons_succ]
                refine wpAnyH_take (i := 3) (v := .pointer (some ⟨pb k, 0, none⟩)) rfl (by kernel_rfl) (by kernel_rfl) (by kernel_rfl) (fun _ _ _ h => h) (Or.inl ⟨by rfl, ?_⟩) hHeld ?_
                · intro w' hSw; have kx := (World.cell?_of_block (hSw.block g hg8 hsg)).trans y7; go_simp
                try simp only [Act.put, List.getElem_toArray, List.getElem_cons_succ, List.getElem_cons_zero, List.setIfInBounds_toArray, List.set_cons_zero, List.set_cons_succ]
                refine wpAnyH_take (i := 4) (v := .slice (some ⟨b, off, none⟩) l.length cap) rfl (by kernel_rfl) (by kernel_rfl) (by kernel_rfl) (fun _ _ _ h => h) (Or.inl ⟨by rfl, ?_⟩) hHeld ?_
                · intro w' hSw; go_simp
                try simp only [Act.put, List.getElem_toArray, List.getElem_cons_succ, List.getElem_cons_zero, List.setIfInBounds_toArray, List.set_cons_zero, List.set_cons_succ]
                refine wpAnyH_take (i := 5) (v := .int .i64 ((i : Int))) rfl (by kernel_rfl) (by kernel_rfl) (by kernel_rfl) (fun _ _ _ h => h) (Or.inl ⟨by rfl, ?_⟩) hHeld ?_
                · intro w' hSw; go_simp
                try simp only [Act.put, List.getElem_toArray, List.getElem_cons_succ, List.getElem_cons_zero, List.setIfInBounds_toArray, List.set_cons_zero, List.set_cons_succ]
                refine wpAnyH_take (i := 6) (v := .pointer (some ⟨b, off + i * 8, none⟩)) rfl (by kernel_rfl) (by kernel_rfl) (by kernel_rfl) (fun _ _ _ h => h) (Or.inl ⟨by rfl, ?_⟩) hHeld ?_
                · intro w' hSw; go_simp
                try simp only [Act.put, List.getElem_toArray, List.getElem_cons_succ, List.getElem_cons_zero, List.setIfInBounds_toArray, List.set_cons_zero, List.set_cons_succ]
                refine wpAnyH_take (i := 7) (v := .agg #[.int .i64 kind, .int .i64 xi, .int .i64 xn, .slice ad data.length cd, .bool raw, .slice ak keep.length ck, .int .i64 tn, .int .i64 (at')]) rfl (by kernel_rfl) (by kernel_rfl) (by kernel_rfl) (fun _ _ _ h => h) (Or.inl ⟨by rfl, ?_⟩) hHeld ?_
                · intro w' hSw; have k0 := (World.cell?_of_block (hSw.block b hbw hsb)).trans x0; have k1 := (World.cell?_of_block (hSw.block b hbw hsb)).trans x1; have k2 := (World.cell?_of_block (hSw.block b hbw hsb)).trans x2; have k3 := (World.cell?_of_block (hSw.block b hbw hsb)).trans x3; have k4 := (World.cell?_of_block (hSw.block b hbw hsb)).trans x4; have k5 := (World.cell?_of_block (hSw.block b hbw hsb)).trans x5; have k6 := (World.cell?_of_block (hSw.block b hbw hsb)).trans x6; have k7 := (World.cell?_of_block (hSw.block b hbw hsb)).trans x7; go_simp
                try simp only [Act.put, List.getElem_toArray, List.getElem_cons_succ, List.getElem_cons_zero, List.setIfInBounds_toArray, List.set_cons_zero, List.set_cons_succ]
                refine wpAnyH_ready (rs := [8]) (by kernel_rfl) (by simp) ?_
                refine allCall (f := 22) (args := #[.pointer (some ⟨pb k, 0, none⟩), .agg #[.int .i64 kind, .int .i64 xi, .int .i64 xn, .slice ad data.length cd, .bool raw, .slice ak keep.length ck, .int .i64 tn, .int .i64 (at')]]) rfl (by kernel_rfl) (by kernel_rfl) ?_ AllReadyH.nil
                refine do_any (S1 k) lo hi _ _ _ ⟨kind, xi, xn, data, raw, keep, tn, at'⟩ _ wk.drew (HPd.out.pr k hkN) (HPd.out.bd k hkN) (by omega) HEd.out hhd (fun q e => .inr (by have := HPd.out.ge k q hkN e; omega)) hx1 _ (fun w7 hO7 hQ7 => ?_)
                have HP7 := Lib.hid (HPd.out.step hkN hzk hO7 _ hx2 hQ7)
                have hB7 := HBd.out.trans (hO7.below hzk (fun q e => HPd.out.ge k q hkN e))
                have hO8 : Only (S1 k) wk w7 := (Only.drew wk).trans hO7
                have HB7 := Lib.hid hB7
                clear hO7 hQ7 hB7 hHeld
                refine ⟨_, rfl, hO8, ?_⟩
                have hHeld := hO8
                clear hO8
                try simp only [Act.put, List.getElem_toArray, List.getElem_cons_succ, List.getElem_cons_zero, List.setIfInBounds_toArray, List.set_cons_zero, List.set_cons_succ]
                refine wpAnyH_take (i := 9) (v := .bool false) rfl (by kernel_rfl) (by kernel_rfl) (by kernel_rfl) (fun _ _ _ h => h) (Or.inl ⟨by rfl, ?_⟩) hHeld ?_
                · intro w' hSw; go_simp
                try simp only [Act.put, List.getElem_toArray, List.getElem_cons_succ, List.getElem_cons_zero, List.setIfInBounds_toArray, List.set_cons_zero, List.set_cons_succ]
                refine wpAnyH_done (by kernel_rfl) ?_ _
                clear hHeld
                go_wp2_with fail
                go_roundw
                case rel => exact ⟨k + 1, _, _, by omega, by go_num, HB7.out, HP7.out⟩
                case measure => first | (simp [intOf]; done) | (simp [intOf]; omega)
              have r0 : ¬ (r : Int) = 0 := by omega
              by_cases hk6 : 6 ≤ kind
              · have k6 : ¬ kind < 6 := by omega
                go_upto_region 21 with fail
                have HPd := Lib.hid (HPk.out.below (Below.drew (Below.refl _ _)))
                have HBd : Hid (Below w.heap.size w wk.drew) := Lib.hid (Below.drew HBk.out)
                have HEd : Hid (opE lo hi wk.drew _ _) := Lib.hid (opE_loc.agree HE.out (fun _ _ _ => rfl))
                have hhd : hi ≤ wk.drew.heap.size := Nat.le_trans hhi hzk
                refine wp_region_held_drew (S := fun w' => Only (S1 k) wk w') (by kernel_rfl) (Only.drew wk) (fun hHeld => ?_)
                refine wpAnyH_take (i := 0) (v := .slice (some ⟨g, 0, none⟩) N c) rfl (by kernel_rfl) (by kernel_rfl) (by kernel_rfl) (fun _ _ _ h => h) (Or.inl ⟨by rfl, ?_⟩) hHeld ?_
                · intro w' hSw; go_simp
                try simp only [Act.put, List.getElem_toArray, List.getElem_cons_succ, List.getElem_cons_zero, List.setIfInBounds_toArray, List.set_cons_zero, List.set_cons_succ]
                refine wpAnyH_take (i := 1) (v := .int .i64 ((k : Int))) rfl (by kernel_rfl) (by kernel_rfl) (by kernel_rfl) (fun _ _ _ h => h) (Or.inl ⟨by rfl, ?_⟩) hHeld ?_
                · intro w' hSw; go_simp
                try simp only [Act.put, List.getElem_toArray, List.getElem_cons_succ, List.getElem_cons_zero, List.setIfInBounds_toArray, List.set_cons_zero, List.set_cons_succ]
                refine wpAnyH_take (i := 2) (v := .pointer (some ⟨g, k, none⟩)) rfl (by kernel_rfl) (by kernel_rfl) (by kernel_rfl) (fun _ _ _ h => h) (Or.inl ⟨by rfl, ?_⟩) hHeld ?_
                · intro w' hSw; go_simp
                try simp only [Act.put, List.getElem_toArray, List.getElem_cons_succ, List.getElem_cons_zero, List.setIfInBounds_toArray, List.set_cons_zero, List.set_cons_succ]
                refine wpAnyH_take (i := 3) (v := .pointer (some ⟨pb k, 0, none⟩)) rfl (by kernel_rfl) (by kernel_rfl) (by kernel_rfl) (fun _ _ _ h => h) (Or.inl ⟨by rfl, ?_⟩) hHeld ?_
                · intro w' hSw; have kx := (World.cell?_of_block (hSw.block g hg8 hsg)).trans y7; go_simp
                try simp only [Act.put, List.getElem_toArray, List.getElem_cons_succ, List.getElem_cons_zero, List.setIfInBounds_toArray, List.set_cons_zero, List.set_cons_succ]
                refine wpAnyH_take (i := 4) (v := .slice (some ⟨b, off, none⟩) l.length cap) rfl (by kernel_rfl) (by kernel_rfl) (by kernel_rfl) (fun _ _ _ h => h) (Or.inl ⟨by rfl, ?_⟩) hHeld ?_
                · intro w' hSw; go_simp
                try simp only [Act.put, List.getElem_toArray, List.getElem_cons_succ, List.getElem_cons_zero, List.setIfInBounds_toArray, List.set_cons_zero, List.set_cons_succ]
                refine wpAnyH_take (i := 5) (v := .int .i64 ((i : Int))) rfl (by kernel_rfl) (by kernel_rfl) (by kernel_rfl) (fun _ _ _ h => h) (Or.inl ⟨by rfl, ?_⟩) hHeld ?_
                · intro w' hSw; go_simp
                try simp only [Act.put, List.getElem_toArray, List.getElem_cons_succ, List.getElem_cons_zero, List.setIfInBounds_toArray, List.set_cons_zero, List.set_cons_succ]
                refine wpAnyH_take (i := 6) (v := .pointer (some ⟨b, off + i * 8, none⟩)) rfl (by kernel_rfl) (by kernel_rfl) (by kernel_rfl) (fun _ _ _ h => h) (Or.inl ⟨by rfl, ?_⟩) hHeld ?_
                · intro w' hSw; go_simp
                try simp only [Act.put, List.getElem_toArray, List.getElem_cons_succ, List.getElem_cons_zero, List.setIfInBounds_toArray, List.set_cons_zero, List.set_cons_succ]
                refine wpAnyH_take (i := 7) (v := .agg #[.int .i64 kind, .int .i64 xi, .int .i64 xn, .slice ad data.length cd, .bool raw, .slice ak keep.length ck, .int .i64 tn, .int .i64 (at')]) rfl (by kernel_rfl) (by kernel_rfl) (by kernel_rfl) (fun _ _ _ h => h) (Or.inl ⟨by rfl, ?_⟩) hHeld ?_
                · intro w' hSw; have k0 := (World.cell?_of_block (hSw.block b hbw hsb)).trans x0; have k1 := (World.cell?_of_block (hSw.block b hbw hsb)).trans x1; have k2 := (World.cell?_of_block (hSw.block b hbw hsb)).trans x2; have k3 := (World.cell?_of_block (hSw.block b hbw hsb)).trans x3; have k4 := (World.cell?_of_block (hSw.block b hbw hsb)).trans x4; have k5 := (World.cell?_of_block (hSw.block b hbw hsb)).trans x5; have k6 := (World.cell?_of_block (hSw.block b hbw hsb)).trans x6; have k7 := (World.cell?_of_block (hSw.block b hbw hsb)).trans x7; go_simp
                try simp only [Act.put, List.getElem_toArray, List.getElem_cons_succ, List.getElem_cons_zero, List.setIfInBounds_toArray, List.set_cons_zero, List.set_cons_succ]
                refine wpAnyH_ready (rs := [8]) (by kernel_rfl) (by simp) ?_
                refine allCall (f := 22) (args := #[.pointer (some ⟨pb k, 0, none⟩), .agg #[.int .i64 kind, .int .i64 xi, .int .i64 xn, .slice ad data.length cd, .bool raw, .slice ak keep.length ck, .int .i64 tn, .int .i64 (at')]]) rfl (by kernel_rfl) (by kernel_rfl) ?_ AllReadyH.nil
                refine do_any (S1 k) lo hi _ _ _ ⟨kind, xi, xn, data, raw, keep, tn, at'⟩ _ wk.drew (HPd.out.pr k hkN) (HPd.out.bd k hkN) (by omega) HEd.out hhd (fun q e => .inr (by have := HPd.out.ge k q hkN e; omega)) hx1 _ (fun w7 hO7 hQ7 => ?_)
                have HP7 := Lib.hid (HPd.out.step hkN hzk hO7 _ hx2 hQ7)
                have hB7 := HBd.out.trans (hO7.below hzk (fun q e => HPd.out.ge k q hkN e))
                have hO8 : Only (S1 k) wk w7 := (Only.drew wk).trans hO7
                have HB7 := Lib.hid hB7
                clear hO7 hQ7 hB7 hHeld
                refine ⟨_, rfl, hO8, ?_⟩
                have hHeld := hO8
                clear hO8
                try simp only [Act.put, List.getElem_toArray, List.getElem_cons_succ, List.getElem_cons_zero, List.setIfInBounds_toArray, List.set_cons_zero, List.set_cons_succ]
                refine wpAnyH_take (i := 9) (v := .bool false) rfl (by kernel_rfl) (by kernel_rfl) (by kernel_rfl) (fun _ _ _ h => h) (Or.inl ⟨by rfl, ?_⟩) hHeld ?_
                · intro w' hSw; go_simp
                try simp only [Act.put, List.getElem_toArray, List.getElem_cons_succ, List.getElem_cons_zero, List.setIfInBounds_toArray, List.set_cons_zero, List.set_cons_succ]
                refine wpAnyH_done (by kernel_rfl) ?_ _
                clear hHeld
                go_wp2_with fail
                go_roundw
                case rel => exact ⟨k + 1, _, _, by omega, by go_num, HB7.out, HP7.out⟩
                case measure => first | (simp [intOf]; done) | (simp [intOf]; omega)
              have k6 : kind < 6 := by omega
              by_cases hN2 : N ≤ 2
              · have n2 : ¬ (2 : Int) < (N : Int) := by omega
                go_upto_region 21 with fail
                have HPd := Lib.hid (HPk.out.below (Below.drew (Below.refl _ _)))
                have HBd : Hid (Below w.heap.size w wk.drew) := Lib.hid (Below.drew HBk.out)
                have HEd : Hid (opE lo hi wk.drew _ _) := Lib.hid (opE_loc.agree HE.out (fun _ _ _ => rfl))
                have hhd : hi ≤ wk.drew.heap.size := Nat.le_trans hhi hzk
                refine wp_region_held_drew (S := fun w' => Only (S1 k) wk w') (by kernel_rfl) (Only.drew wk) (fun hHeld => ?_)
                refine wpAnyH_take (i := 0) (v := .slice (some ⟨g, 0, none⟩) N c) rfl (by kernel_rfl) (by kernel_rfl) (by kernel_rfl) (fun _ _ _ h => h) (Or.inl ⟨by rfl, ?_⟩) hHeld ?_
                · intro w' hSw; go_simp
                try simp only [Act.put, List.getElem_toArray, List.getElem_cons_succ, List.getElem_cons_zero, List.setIfInBounds_toArray, List.set_cons_zero, List.set_cons_succ]
                refine wpAnyH_take (i := 1) (v := .int .i64 ((k : Int))) rfl (by kernel_rfl) (by kernel_rfl) (by kernel_rfl) (fun _ _ _ h => h) (Or.inl ⟨by rfl, ?_⟩) hHeld ?_
                · intro w' hSw; go_simp
                try simp only [Act.put, List.getElem_toArray, List.getElem_cons_succ, List.getElem_cons_zero, List.setIfInBounds_toArray, List.set_cons_zero, List.set_cons_succ]
                refine wpAnyH_take (i := 2) (v := .pointer (some ⟨g, k, none⟩)) rfl (by kernel_rfl) (by kernel_rfl) (by kernel_rfl) (fun _ _ _ h => h) (Or.inl ⟨by rfl, ?_⟩) hHeld ?_
                · intro w' hSw; go_simp
                try simp only [Act.put, List.getElem_toArray, List.getElem_cons_succ, List.getElem_cons_zero, List.setIfInBounds_toArray, List.set_cons_zero, List.set_cons_succ]
                refine wpAnyH_take (i := 3) (v := .pointer (some ⟨pb k, 0, none⟩)) rfl (by kernel_rfl) (by kernel_rfl) (by kernel_rfl) (fun _ _ _ h => h) (Or.inl ⟨by rfl, ?_⟩) hHeld ?_
                · intro w' hSw; have kx := (World.cell?_of_block (hSw.block g hg8 hsg)).trans y7; go_simp
                try simp only [Act.put, List.getElem_toArray, List.getElem_cons_succ, List.getElem_cons_zero, List.setIfInBounds_toArray, List.set_cons_zero, List.set_cons_succ]
                refine wpAnyH_take (i := 4) (v := .slice (some ⟨b, off, none⟩) l.length cap) rfl (by kernel_rfl) (by kernel_rfl) (by kernel_rfl) (fun _ _ _ h => h) (Or.inl ⟨by rfl, ?_⟩) hHeld ?_
                · intro w' hSw; go_simp
                try simp only [Act.put, List.getElem_toArray, List.getElem_cons_succ, List.getElem_cons_zero, List.setIfInBounds_toArray, List.set_cons_zero, List.set_cons_succ]
                refine wpAnyH_take (i := 5) (v := .int .i64 ((i : Int))) rfl (by kernel_rfl) (by kernel_rfl) (by kernel_rfl) (fun _ _ _ h => h) (Or.inl ⟨by rfl, ?_⟩) hHeld ?_
                · intro w' hSw; go_simp
                try simp only [Act.put, List.getElem_toArray, List.getElem_cons_succ, List.getElem_cons_zero, List.setIfInBounds_toArray, List.set_cons_zero, List.set_cons_succ]
                refine wpAnyH_take (i := 6) (v := .pointer (some ⟨b, off + i * 8, none⟩)) rfl (by kernel_rfl) (by kernel_rfl) (by kernel_rfl) (fun _ _ _ h => h) (Or.inl ⟨by rfl, ?_⟩) hHeld ?_
                · intro w' hSw; go_simp
                try simp only [Act.put, List.getElem_toArray, List.getElem_cons_succ, List.getElem_cons_zero, List.setIfInBounds_toArray, List.set_cons_zero, List.set_cons_succ]
                refine wpAnyH_take (i := 7) (v := .agg #[.int .i64 kind, .int .i64 xi, .int .i64 xn, .slice ad data.length cd, .bool raw, .slice ak keep.length ck, .int .i64 tn, .int .i64 (at')]) rfl (by kernel_rfl) (by kernel_rfl) (by kernel_rfl) (fun _ _ _ h => h) (Or.inl ⟨by rfl, ?_⟩) hHeld ?_
                · intro w' hSw; have k0 := (World.cell?_of_block (hSw.block b hbw hsb)).trans x0; have k1 := (World.cell?_of_block (hSw.block b hbw hsb)).trans x1; have k2 := (World.cell?_of_block (hSw.block b hbw hsb)).trans x2; have k3 := (World.cell?_of_block (hSw.block b hbw hsb)).trans x3; have k4 := (World.cell?_of_block (hSw.block b hbw hsb)).trans x4; have k5 := (World.cell?_of_block (hSw.block b hbw hsb)).trans x5; have k6 := (World.cell?_of_block (hSw.block b hbw hsb)).trans x6; have k7 := (World.cell?_of_block (hSw.block b hbw hsb)).trans x7; go_simp
                try simp only [Act.put, List.getElem_toArray, List.getElem_cons_succ, List.getElem_cons_zero, List.setIfInBounds_toArray, List.set_cons_zero, List.set_cons_succ]
                refine wpAnyH_ready (rs := [8]) (by kernel_rfl) (by simp) ?_
                refine allCall (f := 22) (args := #[.pointer (some ⟨pb k, 0, none⟩), .agg #[.int .i64 kind, .int .i64 xi, .int .i64 xn, .slice ad data.length cd, .bool raw, .slice ak keep.length ck, .int .i64 tn, .int .i64 (at')]]) rfl (by kernel_rfl) (by kernel_rfl) ?_ AllReadyH.nil
                refine do_any (S1 k) lo hi _ _ _ ⟨kind, xi, xn, data, raw, keep, tn, at'⟩ _ wk.drew (HPd.out.pr k hkN) (HPd.out.bd k hkN) (by omega) HEd.out hhd (fun q e => .inr (by have := HPd.out.ge k q hkN e; omega)) hx1 _ (fun w7 hO7 hQ7 => ?_)
                have HP7 := Lib.hid (HPd.out.step hkN hzk hO7 _ hx2 hQ7)
                have hB7 := HBd.out.trans (hO7.below hzk (fun q e => HPd.out.ge k q hkN e))
                have hO8 : Only (S1 k) wk w7 := (Only.drew wk).trans hO7
                have HB7 := Lib.hid hB7
                clear hO7 hQ7 hB7 hHeld
                refine ⟨_, rfl, hO8, ?_⟩
                have hHeld := hO8
                clear hO8
                try simp only [Act.put, List.getElem_toArray, List.getElem_cons_succ, List.getElem_cons_zero, List.setIfInBounds_toArray, List.set_cons_zero, List.set_cons_succ]
                refine wpAnyH_take (i := 9) (v := .bool false) rfl (by kernel_rfl) (by kernel_rfl) (by kernel_rfl) (fun _ _ _ h => h) (Or.inl ⟨by rfl, ?_⟩) hHeld ?_
                · intro w' hSw; go_simp
                try simp only [Act.put, List.getElem_toArray, List.getElem_cons_succ, List.getElem_cons_zero, List.setIfInBounds_toArray, List.set_cons_zero, List.set_cons_succ]
                refine wpAnyH_done (by kernel_rfl) ?_ _
                clear hHeld
                go_wp2_with fail
                go_roundw
                case rel => exact ⟨k + 1, _, _, by omega, by go_num, HB7.out, HP7.out⟩
                case measure => first | (simp [intOf]; done) | (simp [intOf]; omega)
              have n2 : (2 : Int) < (N : Int) := by omega
              go_wp2_with fail
              go_roundw
              case rel => exact ⟨k + 1, S1, D1, by omega, by go_num, HBk.out, HPk.out.mono (by omega)⟩
              case measure => first | (simp [intOf]; done) | (simp [intOf]; omega)
            · obtain rfl : k = N := by omega
              have kl : ¬ (k : Int) < (k : Int) := by omega
              go_wp2_with fail
              go_roundw
              case rel => exact ⟨i + 1, _, _, _, _, by omega, by go_num, HBk.out, HPk.out.mono (by omega)⟩
              case measure => first | (simp [intOf]; done) | (simp [intOf]; omega)
    · obtain rfl : i = l.length := by omega
      obtain ⟨g, c, rfl, hg1, hg2, -, -⟩ := HP.out.at (k := 0) (by omega)
      clear hg1 hg2
      go_wp2_with fail
      go_loopw [127] (fun tk wr => ∃ (k M : Nat) (S : Nat → Nat → Prop) (D : Nat → Dk), k ≤ N ∧ tk = .int .i64 (k : Int) ∧ M ≤ 600 + 201 * k ∧ Below w.heap.size w wr ∧ Prs wr w.heap.size m M (.slice (some ⟨g, 0, none⟩) N c) S pb D N) (fun tk _ => N - (intOf tk).toNat)
      case atStart => exact ⟨0, 4 * l.length, _, _, Nat.zero_le _, rfl, by omega, HB.out, HP.out⟩
      case round =>
        obtain ⟨k, M, S1, D1, hk1, rfl, hM, hBk, hPk⟩ := hrel
        obtain ⟨wk, ewk⟩ : ∃ x, x = wr := ⟨_, rfl⟩
        subst ewk
        have HBk := Lib.hid hBk
        have HPk := Lib.hid hPk
        clear hBk hPk
        have k0 : (0 : Int) ≤ (k : Int) := by omega
        by_cases hkN : k < N
        · have kl : (k : Int) < (N : Int) := by omega
          go_wp2_with fail
          go_loopw [15] (fun tj wr => ∃ (j M2 : Nat) (S : Nat → Nat → Prop) (D : Nat → Dk), j ≤ m ∧ tj = .int .i64 (j : Int) ∧ M2 ≤ 600 + 201 * k + 2 * j ∧ Below w.heap.size w wr ∧ Prs wr w.heap.size m M2 (.slice (some ⟨g, 0, none⟩) N c) S pb D N) (fun tj _ => m - (intOf tj).toNat)
          case atStart => exact ⟨0, M, _, _, Nat.zero_le _, rfl, by omega, HBk.out, HPk.out⟩
          case round =>
            obtain ⟨j, M2, S2, D2, hj1, rfl, hM2, hBj, hPj⟩ := hrel
            obtain ⟨wj, ewj⟩ : ∃ x, x = wr := ⟨_, rfl⟩
            subst ewj
            have HBj := Lib.hid hBj
            have HPj := Lib.hid hPj
            have hzj := hBj.size
            clear hBj hPj
            have j0 : (0 : Int) ≤ (j : Int) := by omega
            by_cases hjm : j < m
            · have jl : (j : Int) < (m : Int) := by omega
              obtain ⟨g7, c7, e7, -, -, y7, -⟩ := HPj.out.at hkN
              injection e7 with e7 e7' e7''
              injection e7 with e7
              injection e7 with e7
              subst e7 e7''
              go_wp2_with fail
              refine do_any _ 0 0 _ _ _ ⟨2, (j : Int), 0, [], false, [], 0, 0⟩ _ wj (HPj.out.pr k hkN) (HPj.out.bd k hkN) (by omega) (opE_short wj 2 (j : Int)) (Nat.zero_le _) (fun _ _ => .inr (Nat.zero_le _)) (by simp) _ (fun wa7 hO7 hQ7 => ?_)
              have HP7 := Lib.hid (HPj.out.step hkN (by omega) hO7 _ (by show (0 : Int) ≤ _; omega) hQ7)
              have hB7 : Below w.heap.size w wa7 := HBj.out.trans (hO7.below (by omega) (fun q e => HPj.out.ge k q hkN e))
              have hz7 := hB7.size
              clear hO7 hQ7 y7 e7'
              obtain ⟨g8, c8, e8, -, -, y8, -⟩ := HP7.out.at hkN
              injection e8 with e8 e8' e8''
              injection e8 with e8
              injection e8 with e8
              subst e8 e8''
              go_wp2_with fail
              refine do_any _ 0 0 _ _ _ ⟨6, (j : Int), 0, [], false, [], 0, 0⟩ _ wa7 (HP7.out.pr k hkN) (HP7.out.bd k hkN) (by omega) (opE_short wa7 6 (j : Int)) (Nat.zero_le _) (fun _ _ => .inr (Nat.zero_le _)) (by simp) _ (fun wa8 hO8 hQ8 => ?_)
              have HP8 := Lib.hid (HP7.out.step hkN (by omega) hO8 _ (by show (0 : Int) ≤ _; omega) hQ8)
              have hB8 : Below w.heap.size w wa8 := hB7.trans (hO8.below (by omega) (fun q e => HP7.out.ge k q hkN e))
              have hz8 := hB8.size
              clear hO8 hQ8 y8 e8'
              go_wp2_with fail
              go_roundw
              case rel => exact ⟨j + 1, _, _, _, by omega, by go_num, by omega, hB8, HP8.out⟩
              case measure => first | (simp [intOf]; done) | (simp [intOf]; omega)
            · have jl : ¬ (j : Int) < (m : Int) := by omega
              obtain ⟨g9, c9, e9, -, -, y9, -⟩ := HPj.out.at hkN
              injection e9 with e9 e9' e9''
              injection e9 with e9
              injection e9 with e9
              subst e9 e9''
              go_wp2_with fail
              refine do_any _ 0 0 _ _ _ ⟨7, 0, 0, [], false, [], 0, 0⟩ _ wj (HPj.out.pr k hkN) (HPj.out.bd k hkN) (by omega) (opE_short wj 7 0) (Nat.zero_le _) (fun _ _ => .inr (Nat.zero_le _)) (by simp) _ (fun wa9 hO9 hQ9 => ?_)
              have HP9 := Lib.hid (HPj.out.step hkN (by omega) hO9 _ (by show (0 : Int) ≤ _; omega) hQ9)
              have hB9 : Below w.heap.size w wa9 := HBj.out.trans (hO9.below (by omega) (fun q e => HPj.out.ge k q hkN e))
              have hz9 := hB9.size
              clear hO9 hQ9 y9 e9'
              go_wp2_with fail
              go_roundw
              case rel => exact ⟨k + 1, _, _, _, by omega, by go_num, by omega, hB9, HP9.out⟩
              case measure => first | (simp [intOf]; done) | (simp [intOf]; omega)
        · have hr := HR.out wk HBk.out
          go_wp2_with fail
          first | exact hr | exact fin hr rfl
end Go.Proofs.Ytfmpafheodpfoaa
