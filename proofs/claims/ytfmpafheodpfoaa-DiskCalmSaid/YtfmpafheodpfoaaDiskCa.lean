/- The walk of DiskCalm. (Printed by calm.py.) -/
import Derived.Test.YtfmpafheodpfoaaDiskOp
namespace Go.Proofs.Ytfmpafheodpfoaa
open Go.RowKit Go.Shelf
attribute [local go_sem ↓] Go.wp_at_zero Go.wp_at_succ

/-- The blocks of a law's disk: those from L on, but one. -/
abbrev SX (L lb : Nat) (w : World) (q : Nat) : Prop := L ≤ q ∧ q < w.heap.size ∧ q ≠ lb
set_option maxRecDepth 100000 in
set_option maxHeartbeats 8000000 in
theorem DiskCalm_any (lo hi : Nat) (l : List DOp) (v : Value) (n : Int) (w : World) (hv : Sl opE 8 lo hi w v l) (hhi : hi ≤ w.heap.size) (hn0 : 0 ≤ n) (hn1 : n ≤ 255) (R : Ending → World → Prop)
    (hR : ∀ w', Below w.heap.size w w' → R (.returned (.bool true)) w') : Calls Try.prog 3 #[.int .u8 n, v] w R := by
  have HR := Lib.hid hR
  have Hv := Lib.hid hv
  obtain ⟨ao, acap, rfl, aq1, aq2, -, hc⟩ := hv.form
  have Hc := Lib.hid hc
  clear hR hv hc
  go_enter Try.func3, Try.ntmps3
  go_wp2_with fail
  refine alive_any w _ (fun w1 hB1 => ?_)
  have Hv1 := Lib.hid (Sl.below Hv.out opE_loc hB1 hhi)
  have hs1 := hB1.size
  have HB1 := Lib.hid hB1
  clear hB1 Hv
  go_wp2_with fail
  refine great_any lo hi l _ w1 Hv1.out _ ?_
  by_cases hg : (decide (150 < l.length) || l.any DOp.great) = true
  · rw [hg]
    have hr := HR.out w1 HB1.out
    clear HR
    go_wp2_with fail
    all_goals first | exact hr | exact fin hr rfl
  rw [Bool.not_eq_true] at hg
  rw [hg]
  have hll : l.length ≤ 150 := by
    simp only [Bool.or_eq_false_iff, decide_eq_false_iff_not] at hg
    omega
  have Hg := Lib.hid hg
  clear hg
  obtain ⟨m, hm, hm1, hm2⟩ : ∃ m : Nat, 1 + n % 40 = (m : Int) ∧ 1 ≤ m ∧ m ≤ 40 := ⟨(1 + n % 40).toNat, by omega, by omega, by omega⟩
  go_wp2_with fail
  refine New_ok m hm1 (by omega) w1 _ (fun w2 db hB2 hdb1 hdb2 hD2 => ?_)
  have HB2 := Lib.hid (HB1.out.trans (hB2.mono hs1))
  have hs2 := hB2.size
  have hmk := run_mkStr m (by omega) w2
  have hB3 : Below w2.heap.size w2 (w2.alloc (.cells ((List.replicate m ([] : List UInt8)).map sV).toArray 9)) := (Below.refl _ _).alloc (Nat.le_refl _) _
  have hb3 : Blk (w2.alloc (.cells ((List.replicate m ([] : List UInt8)).map sV).toArray 9)) w2.heap.size ((List.replicate m ([] : List UInt8)).map sV) 9 := Blk.new _ _ _ rfl
  have hs3 : (w2.alloc (.cells ((List.replicate m ([] : List UInt8)).map sV).toArray 9)).heap.size = w2.heap.size + 1 := by simp
  have HD3 := Lib.hid (hD2.below hB3)
  have HB3 := Lib.hid (HB2.out.trans (hB3.mono (by omega)))
  have Hb3 := Lib.hid hb3
  clear hD2 hB2 hB3 hb3 HB1
  generalize hW3 : w2.alloc (.cells ((List.replicate m ([] : List UInt8)).map sV).toArray 9) = w3 at *
  clear hW3
  go_wp2_with fail
  clear hmk
  go_loopw [40] (fun t40 wr => ∃ (k : Nat) (ss : List (List UInt8)), k ≤ m ∧ t40 = .int .i64 k ∧ Only (· = w2.heap.size) w3 wr ∧ Blk wr w2.heap.size (ss.map sV) 9 ∧ ss.length = m ∧ ∀ j, j < k → ss[j]? = some zeroS) (fun t40 _ => m - (intOf t40).toNat)
  case atStart => exact ⟨0, _, Nat.zero_le _, rfl, Only.refl _ _, Hb3.out, by simp, fun j hj => absurd hj (Nat.not_lt_zero _)⟩
  case round =>
    obtain ⟨k, ss, hk, rfl, hO, hb, hl, hz⟩ := hrel
    have HO := Lib.hid hO
    have Hb := Lib.hid hb
    have Hz := Lib.hid hz
    have hsr := hO.size
    have hblt := hb.lt
    clear hO hb hz
    by_cases hlt : k < m
    · go_wp2_with fail
      refine of_any 0 wr _ (fun wf hBf hbf => ?_)
      have hcv := str (Bytes.ofCells (c := 128) (l := List.replicate 128 0) (lo := wr.heap.size) (hi := wr.heap.size + 1) hbf.cells (Nat.le_refl _) (Nat.lt_succ_self _) (by simp) (by decide))
      rw [List.length_replicate] at hcv
      have hb2 := Hb.out.below hBf hblt
      have hc2 : wf.cell? ⟨w2.heap.size, k, none⟩ = some (sV ss[k]) := by
        have := hb2.cells k (sV ss[k]) (by rw [List.getElem?_map, List.getElem?_eq_getElem (by omega)]; rfl)
        rwa [Nat.zero_add] at this
      have hf2 := hb2.free k
      have Hb2 := Lib.hid (hb2.set k (sV zeroS))
      have HO2 := Lib.hid ((HO.out.trans (Below.only hBf)).trans (Only.setCell (A := (· = w2.heap.size)) wf (p := ⟨w2.heap.size, k, none⟩) rfl (sV zeroS)))
      rw [show (ss.map sV).set k (sV zeroS) = (ss.set k zeroS).map sV by rw [List.map_set]] at Hb2
      have hz0 : (List.replicate 128 0 : List UInt8) = zeroS := rfl
      rw [hz0] at hcv
      have hsv : sV ss[k] = .string ⟨ss[k].toArray⟩ := rfl
      rw [hsv] at hc2
      generalize ss[k] = old at *
      clear hbf hb2 hBf hsv hz0
      go_wp2_with fail
      go_roundw
      case rel => exact ⟨k + 1, ss.set k zeroS, by omega, by go_num, HO2.out, Hb2.out, by rw [List.length_set]; exact hl, fun j hj => by
        by_cases e : j = k
        · subst e; rw [List.getElem?_set_self (by omega)]
        · rw [List.getElem?_set_ne (Ne.symm e)]; exact Hz.out j (by omega)⟩
      case measure => simp [intOf]; omega
    · have hss : ss = List.replicate m zeroS := by
        refine List.ext_getElem? fun j => ?_
        by_cases hj : j < m
        · rw [Hz.out j (by omega), List.getElem?_replicate, if_pos hj]
        · rw [List.getElem?_eq_none (by omega), List.getElem?_eq_none (by simp; omega)]
      have hb4 := Hb.out
      rw [hss] at hb4
      have Hb4 := Lib.hid hb4
      have HD4 := Lib.hid (HD3.out.keep (S' := SX w1.heap.size w2.heap.size wr) (fun q hq hq2 => HO.out.block q hq2 (by omega)) (fun q hq => by simp only [SX]; omega))
      have HB4 := Lib.hid (HB3.out.trans (HO.out.below (B := w.heap.size) (by omega) (fun k e => by omega)))
      clear hb4 hss Hb Hz HO HB2 HB3 HD3 Hb3
      have hbl4 := Hb4.out.lt
      go_wp2_with fail
      go_loopw [51] (fun t51 wr => ∃ (k : Nat) (d : Dk) (ss : List (List UInt8)), k ≤ l.length ∧ t51 = .int .i64 k ∧ Below w.heap.size w wr ∧ DkAt wr (SX w1.heap.size w2.heap.size wr) db d ∧ Calm d m (2 * k) ∧ Blk wr w2.heap.size (ss.map sV) 9 ∧ ss.length = m ∧ ∀ j, j < m → ss[j]? = some (d.last j)) (fun t51 _ => l.length - (intOf t51).toNat)
      case atStart => exact ⟨0, Dk.fresh m, _, Nat.zero_le _, rfl, HB4.out, HD4.out, Calm.fresh m, Hb4.out, by simp, fun j hj => by rw [fresh_last m j hj, List.getElem?_replicate, if_pos hj]⟩
      case round =>
        obtain ⟨k, d, ss, hk, rfl, hB, hD, hK, hb, hl, hz⟩ := hrel
        have HB := Lib.hid hB
        have HD := Lib.hid hD
        have HK := Lib.hid hK
        have Hb := Lib.hid hb
        have Hz := Lib.hid hz
        have hsr := hB.size
        have hblt := hb.lt
        clear hB hD hK hb hz
        by_cases hlt : k < l.length
        · obtain ⟨ob, ooff, rfl, op1, op2, oc⟩ := Hc.out k hlt
          obtain ⟨cs, -, hcs, dv, kv, ecs, hdv, -⟩ := oc k hlt
          subst ecs
          obtain ⟨x0, x1, -, x3, -, -, -, -⟩ := hcs.c8
          have hob := HB.out.block ob (by omega)
          replace x0 := (World.cell?_of_block hob).trans x0
          replace x1 := (World.cell?_of_block hob).trans x1
          replace x3 := (World.cell?_of_block hob).trans x3
          have hdv := Lib.hid (Sl.below hdv (flat_loc _) HB.out hhi)
          clear hcs oc hob
          generalize l[k] = op at *
          obtain ⟨ki, hki, hkim⟩ : ∃ ki : Nat, wrap64 (op.i % 4294967296 % (m : Int)) = (ki : Int) ∧ ki < m := by
            have e1 := Int.emod_nonneg (op.i % 4294967296) (show (m : Int) ≠ 0 by omega)
            have e2 := Int.emod_lt_of_pos (op.i % 4294967296) (show (0 : Int) < (m : Int) by omega)
            generalize op.i % 4294967296 % (m : Int) = z at *
            refine ⟨z.toNat, ?_, by omega⟩
            simp only [wrap64]
            omega
          have ki0 : (0 : Int) ≤ (ki : Int) := by omega
          have kim : (ki : Int) < (m : Int) := by omega
          by_cases h1 : op.kind = 1
          · rw [h1] at x0
            go_wp2_with fail
            refine Flush_ok _ db d m (2 * k) wr HD.out HK.out (by omega) (fun q hq => hq.2.1) _ (fun wa hOa hDa => ?_)
            have hsa := hOa.size
            have hBa : Below w1.heap.size wr wa := hOa.below (by omega) (fun q e => e.1)
            have x0a := (World.cell?_of_block (hBa.block ob (by omega))).trans x0
            have HDX := Lib.hid (hDa.mono (S' := SX w1.heap.size w2.heap.size wa) (fun q hq => by simp only [SX] at hq ⊢; omega))
            have HBX := Lib.hid (HB.out.trans (hBa.mono hs1))
            have HbX := Lib.hid (hOa.blk Hb.out (fun e => e.2.2 rfl))
            have HKX : Hid (Calm d.fl m (2 * (k + 1))) := Lib.hid (HK.out.fl.mono (by omega))
            have HzX : Hid (∀ j, j < m → ss[j]? = some (d.fl.last j)) := Lib.hid (fun j hj => by rw [Dk.fl_last j (by rw [HK.out.len]; exact hj)]; exact Hz.out j hj)
            have HlX := Lib.hid hl
            clear hOa hDa hBa HD HK Hz Hb HB
            go_wp2_with fail
            refine Read_ok (SX w1.heap.size w2.heap.size wa) db (d.fl) m _ ki wa HDX.out HKX.out hkim _ (fun wz vz hBz hoz => ?_)
            have hcv := str hoz.bytes
            have hcvd := fun q => str (Sl.below hoz.bytes (flat_loc _) (drewN (Below.refl wz.heap.size wz) q) (Nat.le_refl _))
            have hbz := HbX.out.below hBz HbX.out.lt
            have hcz : wz.cell? ⟨w2.heap.size, ki, none⟩ = some (sV (Dk.last (d.fl) ki)) := by
              have := hbz.cells ki (sV (Dk.last (d.fl) ki)) (by rw [List.getElem?_map, HzX.out ki hkim]; rfl)
              rwa [Nat.zero_add] at this
            have HDz := Lib.hid (HDX.out.keep (S' := SX w1.heap.size w2.heap.size wz) (fun q hq hq2 => hBz.block q hq2) (fun q hq => by have := hBz.size; simp only [SX] at hq ⊢; omega))
            have hszx := HBX.out.size
            have HBz := Lib.hid (HBX.out.trans (hBz.mono (by omega)))
            have Hbz := Lib.hid hbz
            have hsv : sV (Dk.last (d.fl) ki) = .string ⟨(Dk.last (d.fl) ki).toArray⟩ := rfl
            rw [hsv] at hcz
            generalize Dk.last (d.fl) ki = s at hcv hcvd hcz
            clear hsv hBz hoz hbz
            go_wp2_with fail
            go_quiet (fail)
            go_wp2_with fail
            go_roundw
            case rel => exact ⟨k + 1, (d.fl), ss, by omega, by go_num, drewN HBz.out _, HDz.out.keep (fun _ _ _ => rfl) (fun _ h => h), HKX.out, Hbz.out, HlX.out, HzX.out⟩
            case measure => simp [intOf]; omega
          · by_cases h0 : op.kind = 0
            · rw [h0] at x0
              go_wp2_with fail
              refine Full_any lo hi dv op.data wr hdv.out (by omega) _ (fun wf hBf hbf => ?_)
              have hsf := hBf.size
              have hfl := full_length op.data
              have hbfl := hbf.lt
              have HDf := Lib.hid (HD.out.keep (w' := wf) (S' := SX w1.heap.size w2.heap.size wr) (fun q hq hq2 => hBf.block q hq2) (fun _ h => h))
              have HBf := Lib.hid (HB.out.trans (hBf.mono hsr))
              have Hbf := Lib.hid hbf
              have Hblf := Lib.hid (Hb.out.below hBf hblt)
              clear hBf hbf HD HB Hb
              generalize full op.data = b at *
              go_wp2_with fail
              refine Write_ok (SX w1.heap.size w2.heap.size wr) wr.heap.size db d m (2 * k) ki b wf HDf.out HK.out (by omega) (fun q hq => by have := hq.2.1; omega) Hbf.out hfl hkim _ (fun wa hOa hDa => ?_)
              have hsa := hOa.size
              have hba := hOa.blk Hbf.out (fun e => by have := e.2.1; omega)
              have hcv2 := str (Bytes.ofCells (c := 128) (l := b) (lo := wr.heap.size) (hi := wr.heap.size + 1) hba.cells (Nat.le_refl _) (Nat.lt_succ_self _) (by omega) (by decide))
              rw [hfl] at hcv2
              have hbl := hOa.blk Hblf.out (fun e => e.2.2 rfl)
              have hkl : ki < ss.length := by omega
              have hci : wa.cell? ⟨w2.heap.size, ki, none⟩ = some (sV ss[ki]) := by
                have := hbl.cells ki (sV ss[ki]) (by rw [List.getElem?_map, List.getElem?_eq_getElem hkl]; rfl)
                rwa [Nat.zero_add] at this
              have hsv2 : sV ss[ki] = .string ⟨ss[ki].toArray⟩ := rfl
              rw [hsv2] at hci
              have hfi := hbl.free ki
              have hbs := hbl.set ki (sV b)
              rw [show (ss.map sV).set ki (sV b) = (ss.set ki b).map sV by rw [List.map_set]] at hbs
              have hOs : Only (· = w2.heap.size) wa (wa.setCell ⟨w2.heap.size, ki, none⟩ (sV b)) := Only.setCell (A := (· = w2.heap.size)) wa (p := ⟨w2.heap.size, ki, none⟩) rfl _
              have hss := hOs.size
              have HDX := Lib.hid (hDa.keep (S' := SX w1.heap.size w2.heap.size (wa.setCell ⟨w2.heap.size, ki, none⟩ (sV b))) (fun q hq hq2 => hOs.block q hq2 (by simp only [SX] at hq; omega)) (fun q hq => by simp only [SX] at hq ⊢; omega))
              have HBX := Lib.hid ((HBf.out.trans (hOa.below (B := w.heap.size) (by omega) (fun q e => by have := e.1; omega))).trans (hOs.below (B := w.heap.size) (by omega) (fun q e => by omega)))
              have HbX := Lib.hid hbs
              have HKX : Hid (Calm (d.wr ki b) m (2 * (k + 1))) := Lib.hid ((HK.out.wr ki hkim b).mono (by omega))
              have HzX : Hid (∀ j, j < m → (ss.set ki b)[j]? = some ((d.wr ki b).last j)) := Lib.hid (fun j hj => by
                rw [Dk.wr_last HK.out.lenW ki j hkim b, List.getElem?_set]
                by_cases e : j = ki
                · subst e; simp [hkl]
                · rw [if_neg (Ne.symm e), if_neg e]; exact Hz.out j hj)
              have HlX : Hid ((ss.set ki b).length = m) := Lib.hid (by rw [List.length_set]; exact hl)
              have hltx : w2.heap.size < wa.heap.size := hbl.lt
              have hsvb : sV b = .string ⟨b.toArray⟩ := rfl
              rw [hsvb] at HDX HBX HbX
              generalize ss[ki] = old at *
              clear hOa hDa HDf HBf Hblf Hbf HK Hz hbl hbs hOs hba hss hsv2 hsvb
              go_wp2_with fail
              generalize wa.setCell ⟨w2.heap.size, ki, none⟩ (.string ⟨b.toArray⟩) = wx at *
              clear hci hfi
              refine Read_ok (SX w1.heap.size w2.heap.size wx) db (d.wr ki b) m _ ki wx HDX.out HKX.out hkim _ (fun wz vz hBz hoz => ?_)
              have hcv := str hoz.bytes
              have hcvd := fun q => str (Sl.below hoz.bytes (flat_loc _) (drewN (Below.refl wz.heap.size wz) q) (Nat.le_refl _))
              have hbz := HbX.out.below hBz HbX.out.lt
              have hcz : wz.cell? ⟨w2.heap.size, ki, none⟩ = some (sV (Dk.last (d.wr ki b) ki)) := by
                have := hbz.cells ki (sV (Dk.last (d.wr ki b) ki)) (by rw [List.getElem?_map, HzX.out ki hkim]; rfl)
                rwa [Nat.zero_add] at this
              have HDz := Lib.hid (HDX.out.keep (S' := SX w1.heap.size w2.heap.size wz) (fun q hq hq2 => hBz.block q hq2) (fun q hq => by have := hBz.size; simp only [SX] at hq ⊢; omega))
              have hszx := HBX.out.size
              have HBz := Lib.hid (HBX.out.trans (hBz.mono (by omega)))
              have Hbz := Lib.hid hbz
              have hsv : sV (Dk.last (d.wr ki b) ki) = .string ⟨(Dk.last (d.wr ki b) ki).toArray⟩ := rfl
              rw [hsv] at hcz
              generalize Dk.last (d.wr ki b) ki = s at hcv hcvd hcz
              clear hsv hBz hoz hbz
              go_wp2_with fail
              go_quiet (fail)
              go_wp2_with fail
              go_roundw
              case rel => exact ⟨k + 1, (d.wr ki b), (ss.set ki b), by omega, by go_num, drewN HBz.out _, HDz.out.keep (fun _ _ _ => rfl) (fun _ h => h), HKX.out, Hbz.out, HlX.out, HzX.out⟩
              case measure => simp [intOf]; omega
            · have HDX := HD
              have HBX := HB
              have HbX := Hb
              have HKX : Hid (Calm d m (2 * (k + 1))) := Lib.hid (HK.out.mono (by omega))
              have HzX := Hz
              have HlX := Lib.hid hl
              clear HD HB Hb HK Hz
              go_wp2_with fail
              refine Read_ok (SX w1.heap.size w2.heap.size wr) db (d) m _ ki wr HDX.out HKX.out hkim _ (fun wz vz hBz hoz => ?_)
              have hcv := str hoz.bytes
              have hcvd := fun q => str (Sl.below hoz.bytes (flat_loc _) (drewN (Below.refl wz.heap.size wz) q) (Nat.le_refl _))
              have hbz := HbX.out.below hBz HbX.out.lt
              have hcz : wz.cell? ⟨w2.heap.size, ki, none⟩ = some (sV (Dk.last (d) ki)) := by
                have := hbz.cells ki (sV (Dk.last (d) ki)) (by rw [List.getElem?_map, HzX.out ki hkim]; rfl)
                rwa [Nat.zero_add] at this
              have HDz := Lib.hid (HDX.out.keep (S' := SX w1.heap.size w2.heap.size wz) (fun q hq hq2 => hBz.block q hq2) (fun q hq => by have := hBz.size; simp only [SX] at hq ⊢; omega))
              have hszx := HBX.out.size
              have HBz := Lib.hid (HBX.out.trans (hBz.mono (by omega)))
              have Hbz := Lib.hid hbz
              have hsv : sV (Dk.last (d) ki) = .string ⟨(Dk.last (d) ki).toArray⟩ := rfl
              rw [hsv] at hcz
              generalize Dk.last (d) ki = s at hcv hcvd hcz
              clear hsv hBz hoz hbz
              go_wp2_with fail
              go_quiet (fail)
              go_wp2_with fail
              go_roundw
              case rel => exact ⟨k + 1, (d), ss, by omega, by go_num, drewN HBz.out _, HDz.out.keep (fun _ _ _ => rfl) (fun _ h => h), HKX.out, Hbz.out, HlX.out, HzX.out⟩
              case measure => simp [intOf]; omega
        · have hr := HR.out _ HB.out
          go_wp2_with fail
          first | exact hr | exact fin hr rfl
end Go.Proofs.Ytfmpafheodpfoaa
