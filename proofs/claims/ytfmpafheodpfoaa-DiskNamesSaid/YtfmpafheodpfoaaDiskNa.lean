/- The walk of DiskNames. (Printed by names21.py.) -/
import Derived.Test.YtfmpafheodpfoaaDiskNo
namespace Go.Proofs.Ytfmpafheodpfoaa
open Go.RowKit Go.Shelf
attribute [local go_sem ↓] Go.wp_at_zero Go.wp_at_succ
set_option linter.unusedVariables false
set_option linter.unusedSimpArgs false

theorem nilBytes (w : World) : Bytes 0 0 w (.slice none 0 0) ([] : List UInt8) := ⟨none, 0, rfl, Nat.le_refl _, by decide, (fun _ => rfl), fun h => absurd h (by simp)⟩
theorem ofBytes {w : World} {b : Nat} {c : UInt8} (h : Blk w b ((List.replicate 128 c).flatMap bE) 5) : Bytes b (b + 1) w (.slice (some ⟨b, 0, none⟩) 128 128) (List.replicate 128 c) := by
  have := Bytes.ofCells (c := 128) (l := List.replicate 128 c) h.cells (Nat.le_refl _) (Nat.lt_succ_self _) (by simp) (by decide)
  rwa [List.length_replicate] at this
def nm1 : Dk := ⟨(Dk.fresh 4).safe, (Dk.fresh 4).writes, 1, (Dk.fresh 4).down, (Dk.fresh 4).ops⟩
def nm2 : Dk := ⟨nm1.safe, nm1.writes.set 0 (nm1.writes.getD 0 [] ++ [aS]), fuse1 nm1.fuse, nm1.down, nm1.ops + 1⟩
def nm3 : Dk := ⟨nm2.safe, nm2.writes, nm2.fuse, true, nm2.ops⟩
def nm4 : Dk := ⟨(nm3.upTo (fate nm3 [9] (-1) 0) nm3.safe.length).safe, (nm3.upTo (fate nm3 [9] (-1) 0) nm3.safe.length).writes, -1, false, nm3.ops⟩
theorem nm2_few (l : List (List UInt8)) (hl : l ∈ nm2.writes) : l.length ≤ 1000000 := by
  have h : nm2.writes.all (fun l => decide (l.length ≤ 1000000)) = true := by kernel_rfl
  have := List.all_eq_true.1 h l hl
  simpa using this
theorem nm4_0 : (nm4.last 0 == List.replicate 128 97) = true := by kernel_rfl
theorem nm4_calm : Calm nm4 4 100 := ⟨by kernel_rfl, by kernel_rfl, rfl, rfl, by decide, fun l hl => by
  have : nm4.writes.all (fun l => decide (l.length ≤ 100)) = true := by kernel_rfl
  have := List.all_eq_true.1 this l hl
  simpa using this⟩

set_option maxRecDepth 100000 in
set_option maxHeartbeats 100000000 in
theorem DiskNames_any (w : World) (R : Ending → World → Prop) (hR : ∀ w', Below w.heap.size w w' → R (.returned (.bool true)) w') : Calls Try.prog 6 #[] w R := by
  have HR := Lib.hid hR
  clear hR
  go_enter Try.func6, Try.ntmps6
  go_wp2_with fail
  refine New_ok 4 (by omega) (by omega) w _ (fun w1 db hB1 hdb1 hdb2 hD1 => ?_)
  have hs10 := hB1.size
  have HDw1 := Lib.hid hD1
  have HBw1 := Lib.hid hB1
  have hsw1 : w1.heap.size ≤ w1.heap.size := Nat.le_refl _
  clear hD1 hB1
  go_wp2_with fail
  refine wp_region_held_drew (S := fun _ => True) (by kernel_rfl) trivial (fun hHeld => ?_)
  refine wpAnyH_take (i := 0) (v := .pointer (some ⟨db, 0, none⟩)) rfl (by kernel_rfl) (by kernel_rfl) (by kernel_rfl) (fun _ _ _ h => h) (Or.inl ⟨by rfl, ?_⟩) hHeld ?_
  · intro w' hSw; go_simp
  try simp only [Act.put, List.getElem_toArray, List.getElem_cons_succ, List.getElem_cons_zero, List.setIfInBounds_toArray, List.set_cons_zero, List.set_cons_succ]
  refine wpAnyH_take (i := 1) (v := .agg #[.slice none 0 0, .int .i64 0, .int .i64 0]) rfl (by kernel_rfl) (by kernel_rfl) (by kernel_rfl) (fun _ _ _ h => h) (Or.inl ⟨by rfl, ?_⟩) hHeld ?_
  · intro w' hSw; go_simp
  try simp only [Act.put, List.getElem_toArray, List.getElem_cons_succ, List.getElem_cons_zero, List.setIfInBounds_toArray, List.set_cons_zero, List.set_cons_succ]
  refine wpAnyH_take (i := 3) (v := .pointer (some ⟨db, 0, none⟩)) rfl (by kernel_rfl) (by kernel_rfl) (by kernel_rfl) (fun _ _ _ h => h) (Or.inl ⟨by rfl, ?_⟩) hHeld ?_
  · intro w' hSw; go_simp
  try simp only [Act.put, List.getElem_toArray, List.getElem_cons_succ, List.getElem_cons_zero, List.setIfInBounds_toArray, List.set_cons_zero, List.set_cons_succ]
  refine wpAnyH_take (i := 6) (v := .pointer (some ⟨db, 0, none⟩)) rfl (by kernel_rfl) (by kernel_rfl) (by kernel_rfl) (fun _ _ _ h => h) (Or.inl ⟨by rfl, ?_⟩) hHeld ?_
  · intro w' hSw; go_simp
  try simp only [Act.put, List.getElem_toArray, List.getElem_cons_succ, List.getElem_cons_zero, List.setIfInBounds_toArray, List.set_cons_zero, List.set_cons_succ]
  have hdr : Below w1.heap.size w1 w1.drew := drewN (Below.refl _ _) 1
  have HDd := Lib.hid (HDw1.out.below hdr)
  have HBd := Lib.hid (HBw1.out.trans (hdr.mono hs10))
  have hsd : w1.heap.size ≤ w1.drew.heap.size := hdr.size
  clear HDw1 HBw1 hdr hsw1
  refine wpAnyH_ready (rs := [2, 7]) (by kernel_rfl) (by simp) ?_
  refine allCall (f := 16) (args := #[.pointer (some ⟨db, 0, none⟩), .agg #[.slice none 0 0, .int .i64 0, .int .i64 0]]) rfl (by kernel_rfl) ?_ ?_ ?_
  · go_simp
  · refine Up_any (fun k => w.heap.size ≤ k ∧ k < w1.heap.size) 0 0 db (Dk.fresh 4) _ [] 0 0 w1.drew HDd.out (fun q hq => by have := hq.2; omega) (nilBytes _) (Nat.zero_le _) (fun q _ => .inr (Nat.zero_le _)) (fun l hl => by rw [(List.mem_replicate.1 hl).2]; simp) _ (fun _ v1 hOn hDn => ⟨_, rfl, trivial, ?_⟩) (fun e => absurd e (by decide))
    have hsn0 := hOn.size
    have HDv1 := Lib.hid hDn
    have HBv1 := Lib.hid (HBd.out.trans (hOn.below (B := w.heap.size) (by omega) (fun q e => e.1)))
    have hsv1 : w1.heap.size ≤ v1.heap.size := by omega
    clear hOn hDn
    try simp only [Act.put, List.getElem_toArray, List.getElem_cons_succ, List.getElem_cons_zero, List.setIfInBounds_toArray, List.set_cons_zero, List.set_cons_succ]
    refine wpAnyH_ready (rs := [4, 7]) (by kernel_rfl) (by simp) ?_
    refine allCall (f := 10) (args := #[.int .u8 97]) rfl (by kernel_rfl) ?_ ?_ ?_
    · go_simp
    · refine of_any 97 v1 _ (fun v2 hBn hbn => ⟨_, rfl, trivial, ?_⟩)
      have hsn0 := hBn.size
      have HDv2 := Lib.hid (HDv1.out.below hBn)
      have HBv2 := Lib.hid (HBv1.out.trans (hBn.mono (by omega)))
      have hsv2 : w1.heap.size ≤ v2.heap.size := by omega
      have Hb := Lib.hid hbn
      have hblt := hbn.lt
      have hb1 : w1.heap.size ≤ v1.heap.size := hsv1
      clear hBn hbn
      obtain ⟨bb, hbb⟩ : ∃ bb, bb = v1.heap.size := ⟨_, rfl⟩
      rw [← hbb] at Hb hb1 hblt
      rw [← hbb]
      clear hbb
      try simp only [Act.put, List.getElem_toArray, List.getElem_cons_succ, List.getElem_cons_zero, List.setIfInBounds_toArray, List.set_cons_zero, List.set_cons_succ]
      refine wpAnyH_ready (rs := [5, 7]) (by kernel_rfl) (by simp) ?_
      refine allCall (f := 13) (args := #[.pointer (some ⟨db, 0, none⟩), .int .i64 4, .slice (some ⟨bb, 0, none⟩) 128 128]) rfl (by kernel_rfl) ?_ ?_ ?_
      · go_simp
      · refine Write_any (fun k => w.heap.size ≤ k ∧ k < w1.heap.size) bb (bb + 1) db (Dk.fresh 4) 4 _ aS v2 HDv2.out (ofBytes Hb.out) Hb.out.lt (fun q hq => by have := hq.2; omega) (by decide) (by decide) (fun l hl => by rw [(List.mem_replicate.1 hl).2]; simp) _ (fun _ => ⟨_, rfl, trivial, ?_⟩) (fun e => absurd e (by decide)) (fun e => absurd e (by decide)) (fun e => absurd e (by decide))
        rw [show upE (Dk.fresh 4).safe.length (Dk.fresh 4).down 4 = 211 by decide]
        try simp only [Act.put, List.getElem_toArray, List.getElem_cons_succ, List.getElem_cons_zero, List.setIfInBounds_toArray, List.set_cons_zero, List.set_cons_succ]
        refine wpAnyH_ready (rs := [7]) (by kernel_rfl) (by simp) ?_
        refine allVal (v := .slice (some ⟨v2.heap.size, 0, none⟩) 127 127) (w' := v2.alloc (.cells ((List.replicate 127 (0 : UInt8)).flatMap bE).toArray 5)) rfl (by kernel_rfl) ?_ trivial ?_ AllReadyH.nil
        · have hmk : (Instr.makeSlice 30 (.int .i64 127) (.int .i64 127)).run Try.prog v2 = .ok (.slice (some ⟨v2.heap.size, 0, none⟩) 127 127) (v2.alloc (.cells ((List.replicate 127 (0 : UInt8)).flatMap bE).toArray 5)) := run_mk 127 (by omega) v2
          go_simp
        have hBn : Below v2.heap.size v2 (v2.alloc (.cells ((List.replicate 127 (0 : UInt8)).flatMap bE).toArray 5)) := (Below.refl _ _).alloc (Nat.le_refl _) _
        have hmn : Blk (v2.alloc (.cells ((List.replicate 127 (0 : UInt8)).flatMap bE).toArray 5)) v2.heap.size ((List.replicate 127 (0 : UInt8)).flatMap bE) 5 := Blk.new _ _ _ rfl
        have hsv40 := hBn.size
        have HDv4 := Lib.hid (HDv2.out.below hBn)
        have HBv4 := Lib.hid (HBv2.out.trans (hBn.mono (by omega)))
        have Hm := Lib.hid hmn
        have hmlt := hmn.lt
        have hm1 : w1.heap.size ≤ v2.heap.size := hsv2
        obtain ⟨bm, hbm⟩ : ∃ bm, bm = v2.heap.size := ⟨_, rfl⟩
        rw [← hbm] at Hm hm1 hmlt
        rw [← hbm]
        clear hBn hmn
        generalize v2.alloc (.cells ((List.replicate 127 (0 : UInt8)).flatMap bE).toArray 5) = v4 at *
        clear hbm
        have hsv4 : w1.heap.size ≤ v4.heap.size := by omega
        try simp only [Act.put, List.getElem_toArray, List.getElem_cons_succ, List.getElem_cons_zero, List.setIfInBounds_toArray, List.set_cons_zero, List.set_cons_succ]
        refine wpAnyH_ready (rs := [8]) (by kernel_rfl) (by simp) ?_
        refine allCall (f := 13) (args := #[.pointer (some ⟨db, 0, none⟩), .int .i64 0, .slice (some ⟨bm, 0, none⟩) 127 127]) rfl (by kernel_rfl) ?_ ?_ AllReadyH.nil
        · go_simp
        refine Write_any (fun k => w.heap.size ≤ k ∧ k < w1.heap.size) bm (bm + 1) db (Dk.fresh 4) 0 _ (List.replicate 127 0) v4 HDv4.out (Bytes.ofCells (c := 127) (l := List.replicate 127 0) Hm.out.cells (Nat.le_refl _) (Nat.lt_succ_self _) (by simp) (by decide)) Hm.out.lt (fun q hq => by have := hq.2; omega) (by decide) (by decide) (fun l hl => by rw [(List.mem_replicate.1 hl).2]; simp) _ (fun e => absurd (by decide : upE (Dk.fresh 4).safe.length (Dk.fresh 4).down 0 = 0) e) (fun _ _ => ⟨_, rfl, trivial, ?_⟩) (fun _ e => absurd e (by simp)) (fun _ e => absurd e (by simp))
        try simp only [Act.put, List.getElem_toArray, List.getElem_cons_succ, List.getElem_cons_zero, List.setIfInBounds_toArray, List.set_cons_zero, List.set_cons_succ]
        refine wpAnyH_take (i := 9) (v := .int .i64 2) rfl (by kernel_rfl) (by kernel_rfl) (by kernel_rfl) (fun _ _ _ h => h) (Or.inl ⟨by rfl, ?_⟩) trivial ?_
        · intro w' hSw; go_simp
        try simp only [Act.put, List.getElem_toArray, List.getElem_cons_succ, List.getElem_cons_zero, List.setIfInBounds_toArray, List.set_cons_zero, List.set_cons_succ]
        refine wpAnyH_take (i := 10) (v := .int .i64 211) rfl (by kernel_rfl) (by kernel_rfl) (by kernel_rfl) (fun _ _ _ h => h) (Or.inl ⟨by rfl, ?_⟩) trivial ?_
        · intro w' hSw; go_simp
        try simp only [Act.put, List.getElem_toArray, List.getElem_cons_succ, List.getElem_cons_zero, List.setIfInBounds_toArray, List.set_cons_zero, List.set_cons_succ]
        refine wpAnyH_take (i := 11) (v := .int .i64 2) rfl (by kernel_rfl) (by kernel_rfl) (by kernel_rfl) (fun _ _ _ h => h) (Or.inl ⟨by rfl, ?_⟩) trivial ?_
        · intro w' hSw; go_simp
        try simp only [Act.put, List.getElem_toArray, List.getElem_cons_succ, List.getElem_cons_zero, List.setIfInBounds_toArray, List.set_cons_zero, List.set_cons_succ]
        refine wpAnyH_done (by kernel_rfl) ?_ _
        clear Hm
        go_wp2_with fail
        refine Fuse_any (fun q => w.heap.size ≤ q ∧ q < w1.heap.size) db _ 1 v4 HDv4.out _ (fun e => absurd e (by decide)) (fun _ wA hOA hsA hDA => ?_)
        have HDA : Hid (DkAt wA (fun q => w.heap.size ≤ q ∧ q < w1.heap.size) db nm1) := Lib.hid hDA
        have HBA := Lib.hid (HBv4.out.trans (hOA.below (B := w.heap.size) (by omega) (fun q e => by omega)))
        clear hOA hDA HDv4 HBv4
        have hsA' : w1.heap.size ≤ wA.heap.size := by omega
        clear hsA
        go_wp2_with fail
        refine of_any 97 wA _ (fun wB hBB hbB => ?_)
        have hsB := hBB.size
        have hbBl := hbB.lt
        have HDB := Lib.hid (HDA.out.below hBB)
        have HBB := Lib.hid (HBA.out.trans (hBB.mono (by omega)))
        have HbB := Lib.hid hbB
        clear hBB hbB HDA HBA
        go_wp2_with fail
        refine Write_any (fun q => w.heap.size ≤ q ∧ q < w1.heap.size) _ (_ + 1) db nm1 0 _ aS wB HDB.out (ofBytes HbB.out) hbBl (fun q hq => by have := hq.2; omega) (by decide) (by decide) (fun l hl => by rw [(List.mem_replicate.1 hl).2]; simp) _ (fun e => absurd (by decide : upE nm1.safe.length nm1.down 0 = 0) e) (fun _ e => absurd (by simp [aS] : aS.length = 128) e) (fun _ _ e => absurd e (by decide)) (fun _ _ _ wC hOC hDC => ?_)
        have hsC := hOC.size
        have HDC : Hid (DkAt wC (fun q => w.heap.size ≤ q ∧ q < wC.heap.size) db nm2) := Lib.hid (hDC.mono (fun q hq => by omega))
        have HBC := Lib.hid (HBB.out.trans (hOC.below (B := w.heap.size) (by omega) (fun q e => e.1)))
        clear hOC hDC HDB HBB HbB
        go_wp2_with fail
        refine of_any 98 wC _ (fun wD hBD hbD => ?_)
        have hsD := hBD.size
        have hbDl := hbD.lt
        have HDD := Lib.hid (HDC.out.below hBD)
        have HBD := Lib.hid (HBC.out.trans (hBD.mono (by omega)))
        have HbD := Lib.hid hbD
        clear hBD hbD HDC HBC
        go_wp2_with fail
        refine Write_any (fun q => w.heap.size ≤ q ∧ q < wC.heap.size) _ (_ + 1) db nm2 0 _ bS wD HDD.out (ofBytes HbD.out) hbDl (fun q hq => by have := hq.2; omega) (by decide) (by decide) nm2_few _ (fun e => absurd (by decide : upE nm2.safe.length nm2.down 0 = 0) e) (fun _ e => absurd (by simp [bS] : bS.length = 128) e) (fun _ _ _ wE hOE hsE hDE => ?_) (fun _ _ e => absurd (by decide : nm2.fuse = 0) e)
        have hsE' : wD.heap.size ≤ wE.heap.size := by omega
        clear hsE
        have HDE : Hid (DkAt wE (fun q => w.heap.size ≤ q ∧ q < wC.heap.size) db nm3) := Lib.hid hDE
        have HBE := Lib.hid (HBD.out.trans (hOE.below (B := w.heap.size) (by omega) (fun q e => e.1)))
        clear hOE hDE HDD HBD HbD
        go_wp2_with fail
        refine Flush_any (fun q => w.heap.size ≤ q ∧ q < wC.heap.size) db nm3 wE HDE.out (fun q hq => by have := hq.2; omega) (by decide) (by decide) _ (fun _ wF hOF hDF => ?_) (fun e => absurd e (by decide)) (fun e => absurd e (by decide))
        have hsF := hOF.size
        have HDF := Lib.hid hDF
        have HBF := Lib.hid (HBE.out.trans (hOF.below (B := w.heap.size) (by omega) (fun q e => e.1)))
        clear hOF hDF HDE HBE
        go_wp2_with fail
        refine Read_any (fun q => w.heap.size ≤ q ∧ q < wC.heap.size) wF.heap.size db nm3 0 wF (Nat.le_refl _) HDF.out _ (fun _ => ?_) (fun _ _ e => absurd e (by decide))
        rw [show upE nm3.safe.length nm3.down 0 = 210 by decide]
        go_wp2_with fail
        refine Down_any (fun q => w.heap.size ≤ q ∧ q < wC.heap.size) db nm3 wF HDF.out _ ?_
        rw [show nm3.down = true from rfl]
        go_wp2_with fail
        refine Ops_any (fun q => w.heap.size ≤ q ∧ q < wC.heap.size) db nm3 wF HDF.out _ ?_
        rw [show nm3.ops = 1 from rfl]
        go_wp2_with fail
        refine Safe_any (fun q => w.heap.size ≤ q ∧ q < wC.heap.size) wF.heap.size db nm3 0 wF (Nat.le_refl _) HDF.out _ (fun e => absurd (by decide : safeE nm3.safe.length 0 = 0) e) (fun wG vG _ hBG hoG => ?_)
        have hsG := hBG.size
        have HDG := Lib.hid (HDF.out.below hBG)
        have HBG := Lib.hid (HBF.out.trans (hBG.mono (by omega)))
        have HoG : Hid (OwnB wF.heap.size wG vG (List.replicate 128 0)) := Lib.hid hoG
        clear hBG hoG HDF HBF
        go_wp2_with fail
        refine Safe_any (fun q => w.heap.size ≤ q ∧ q < wC.heap.size) wG.heap.size db nm3 (-1) wG (Nat.le_refl _) HDG.out _ (fun _ => ?_) (fun _ _ e => absurd e (by decide))
        go_wp2_with fail
        have hBH : Below wG.heap.size wG (wG.alloc (.cells #[.int .u8 9] 5)) := (Below.refl _ _).alloc (Nat.le_refl _) _
        have hkp : Bytes wG.heap.size (wG.heap.size + 1) (wG.alloc (.cells #[.int .u8 9] 5)) (.slice (some ⟨wG.heap.size, 0, none⟩) 1 1) [9] :=
          Bytes.ofCells (c := 1) (l := [9]) (CellsAt.newAt wG [.int .u8 9] 5 rfl) (Nat.le_refl _) (Nat.lt_succ_self _) (by decide) (by decide)
        have hsH : (wG.alloc (.cells #[.int .u8 9] 5)).heap.size = wG.heap.size + 1 := by simp
        have HDH := Lib.hid (HDG.out.below hBH)
        have HBH := Lib.hid (HBG.out.trans (hBH.mono (by omega)))
        have HoH := Lib.hid (Own.kept HoG.out hBH)
        have Hkp := Lib.hid hkp
        clear hBH hkp HDG HBG HoG
        generalize wG.alloc (.cells #[.int .u8 9] 5) = wH at *
        refine Up_any (fun q => w.heap.size ≤ q ∧ q < wC.heap.size) wG.heap.size (wG.heap.size + 1) db nm3 _ [9] (-1) 0 wH HDH.out (fun q hq => by have := hq.2; omega) Hkp.out (by omega) (fun q hq => by have := hq.2; omega) nm2_few _ (fun e => absurd e (by decide)) (fun _ wU hOU hDU => ?_)
        have hsU := hOU.size
        have HDU : Hid (DkAt wU (fun q => w.heap.size ≤ q ∧ q < wC.heap.size) db nm4) := Lib.hid hDU
        have HBU := Lib.hid (HBH.out.trans (hOU.below (B := w.heap.size) (by omega) (fun q e => e.1)))
        have HoU := Lib.hid (Own.same HoH.out (fun g hg => hOU.block g (Own.lt HoH.out g hg).2 (fun e => by have := (Own.lt HoH.out g hg).1; have := e.2; omega)))
        clear hOU hDU HDH HBH HoH Hkp
        go_wp2_with fail
        have hby : ∀ w', Below wU.heap.size wU w' → (convert 30 9 vG).run Try.prog w' = .ok (.string ⟨(List.replicate 128 (0 : UInt8)).toArray⟩) w' := fun w' hB => str (OwnB.bytes (Own.kept HoU.out hB))
        refine wp_region_held_drew (S := fun w' => Below wU.heap.size wU w') (by kernel_rfl) (drewN (Below.refl _ _) 1) (fun hHeld => ?_)
        refine wpAnyH_take (i := 0) (v := .int .i64 0) rfl (by kernel_rfl) (by kernel_rfl) (by kernel_rfl) (fun _ _ _ h => h) (Or.inl ⟨by rfl, ?_⟩) hHeld ?_
        · intro w' hSw; go_simp
        try simp only [Act.put, List.getElem_toArray, List.getElem_cons_succ, List.getElem_cons_zero, List.setIfInBounds_toArray, List.set_cons_zero, List.set_cons_succ]
        refine wpAnyH_take (i := 1) (v := .bool true) rfl (by kernel_rfl) (by kernel_rfl) (by kernel_rfl) (fun _ _ _ h => h) (Or.inl ⟨by rfl, ?_⟩) hHeld ?_
        · intro w' hSw; go_simp
        try simp only [Act.put, List.getElem_toArray, List.getElem_cons_succ, List.getElem_cons_zero, List.setIfInBounds_toArray, List.set_cons_zero, List.set_cons_succ]
        refine wpAnyH_take (i := 2) (v := .bool true) rfl (by kernel_rfl) (by kernel_rfl) (by kernel_rfl) (fun _ _ _ h => h) (Or.inl ⟨by rfl, ?_⟩) hHeld ?_
        · intro w' hSw; go_simp
        try simp only [Act.put, List.getElem_toArray, List.getElem_cons_succ, List.getElem_cons_zero, List.setIfInBounds_toArray, List.set_cons_zero, List.set_cons_succ]
        refine wpAnyH_take (i := 3) (v := vG) rfl (by kernel_rfl) (by kernel_rfl) (by kernel_rfl) (fun _ _ _ h => h) (Or.inl ⟨by rfl, ?_⟩) hHeld ?_
        · intro w' hSw; go_simp
        try simp only [Act.put, List.getElem_toArray, List.getElem_cons_succ, List.getElem_cons_zero, List.setIfInBounds_toArray, List.set_cons_zero, List.set_cons_succ]
        refine wpAnyH_take (i := 4) (v := .string ⟨(List.replicate 128 (0 : UInt8)).toArray⟩) rfl (by kernel_rfl) (by kernel_rfl) (by kernel_rfl) (fun _ _ _ h => h) (Or.inl ⟨by rfl, ?_⟩) hHeld ?_
        · intro w' hSw; have hcc := hby w' hSw; go_simp
        try simp only [Act.put, List.getElem_toArray, List.getElem_cons_succ, List.getElem_cons_zero, List.setIfInBounds_toArray, List.set_cons_zero, List.set_cons_succ]
        refine wpAnyH_ready (rs := [5]) (by kernel_rfl) (by simp) ?_
        refine allCall (f := 10) (args := #[.int .u8 0]) rfl (by kernel_rfl) ?_ ?_ AllReadyH.nil
        · go_simp
        refine of_any 0 wU.drew _ (fun wV hBV hbV => ⟨_, rfl, hHeld.trans hBV, ?_⟩)
        have hHeld2 := hHeld.trans hBV
        have hsV := hHeld2.size
        have HbV : Hid (Blk wV wU.heap.size ((List.replicate 128 (0 : UInt8)).flatMap bE) 5) := Lib.hid hbV
        clear hBV hbV hHeld
        have hHeld := hHeld2
        clear hHeld2
        try simp only [Act.put, List.getElem_toArray, List.getElem_cons_succ, List.getElem_cons_zero, List.setIfInBounds_toArray, List.set_cons_zero, List.set_cons_succ]
        refine wpAnyH_ready (rs := [6]) (by kernel_rfl) (by simp) ?_
        refine allVal (v := .string ⟨(List.replicate 128 (0 : UInt8)).toArray⟩) (w' := wV) rfl (by kernel_rfl) ?_ hHeld ?_ AllReadyH.nil
        · have hcc := str (ofBytes HbV.out)
          go_simp
        try simp only [Act.put, List.getElem_toArray, List.getElem_cons_succ, List.getElem_cons_zero, List.setIfInBounds_toArray, List.set_cons_zero, List.set_cons_succ]
        refine wpAnyH_take (i := 7) (v := .bool true) rfl (by kernel_rfl) (by kernel_rfl) (by kernel_rfl) (fun _ _ _ h => h) (Or.inl ⟨by rfl, ?_⟩) hHeld ?_
        · intro w' hSw; go_simp
        try simp only [Act.put, List.getElem_toArray, List.getElem_cons_succ, List.getElem_cons_zero, List.setIfInBounds_toArray, List.set_cons_zero, List.set_cons_succ]
        refine wpAnyH_take (i := 8) (v := .bool true) rfl (by kernel_rfl) (by kernel_rfl) (by kernel_rfl) (fun _ _ _ h => h) (Or.inl ⟨by rfl, ?_⟩) hHeld ?_
        · intro w' hSw; go_simp
        try simp only [Act.put, List.getElem_toArray, List.getElem_cons_succ, List.getElem_cons_zero, List.setIfInBounds_toArray, List.set_cons_zero, List.set_cons_succ]
        refine wpAnyH_take (i := 9) (v := .bool true) rfl (by kernel_rfl) (by kernel_rfl) (by kernel_rfl) (fun _ _ _ h => h) (Or.inl ⟨by rfl, ?_⟩) hHeld ?_
        · intro w' hSw; go_simp
        try simp only [Act.put, List.getElem_toArray, List.getElem_cons_succ, List.getElem_cons_zero, List.setIfInBounds_toArray, List.set_cons_zero, List.set_cons_succ]
        refine wpAnyH_take (i := 10) (v := .int .i64 211) rfl (by kernel_rfl) (by kernel_rfl) (by kernel_rfl) (fun _ _ _ h => h) (Or.inl ⟨by rfl, ?_⟩) hHeld ?_
        · intro w' hSw; go_simp
        try simp only [Act.put, List.getElem_toArray, List.getElem_cons_succ, List.getElem_cons_zero, List.setIfInBounds_toArray, List.set_cons_zero, List.set_cons_succ]
        refine wpAnyH_take (i := 11) (v := .bool true) rfl (by kernel_rfl) (by kernel_rfl) (by kernel_rfl) (fun _ _ _ h => h) (Or.inl ⟨by rfl, ?_⟩) hHeld ?_
        · intro w' hSw; go_simp
        try simp only [Act.put, List.getElem_toArray, List.getElem_cons_succ, List.getElem_cons_zero, List.setIfInBounds_toArray, List.set_cons_zero, List.set_cons_succ]
        refine wpAnyH_take (i := 12) (v := .bool true) rfl (by kernel_rfl) (by kernel_rfl) (by kernel_rfl) (fun _ _ _ h => h) (Or.inl ⟨by rfl, ?_⟩) hHeld ?_
        · intro w' hSw; go_simp
        try simp only [Act.put, List.getElem_toArray, List.getElem_cons_succ, List.getElem_cons_zero, List.setIfInBounds_toArray, List.set_cons_zero, List.set_cons_succ]
        refine wpAnyH_take (i := 13) (v := .bool true) rfl (by kernel_rfl) (by kernel_rfl) (by kernel_rfl) (fun _ _ _ h => h) (Or.inl ⟨by rfl, ?_⟩) hHeld ?_
        · intro w' hSw; go_simp
        try simp only [Act.put, List.getElem_toArray, List.getElem_cons_succ, List.getElem_cons_zero, List.setIfInBounds_toArray, List.set_cons_zero, List.set_cons_succ]
        refine wpAnyH_take (i := 14) (v := .int .i64 0) rfl (by kernel_rfl) (by kernel_rfl) (by kernel_rfl) (fun _ _ _ h => h) (Or.inl ⟨by rfl, ?_⟩) hHeld ?_
        · intro w' hSw; go_simp
        try simp only [Act.put, List.getElem_toArray, List.getElem_cons_succ, List.getElem_cons_zero, List.setIfInBounds_toArray, List.set_cons_zero, List.set_cons_succ]
        refine wpAnyH_take (i := 15) (v := .bool true) rfl (by kernel_rfl) (by kernel_rfl) (by kernel_rfl) (fun _ _ _ h => h) (Or.inl ⟨by rfl, ?_⟩) hHeld ?_
        · intro w' hSw; go_simp
        try simp only [Act.put, List.getElem_toArray, List.getElem_cons_succ, List.getElem_cons_zero, List.setIfInBounds_toArray, List.set_cons_zero, List.set_cons_succ]
        refine wpAnyH_take (i := 16) (v := .bool true) rfl (by kernel_rfl) (by kernel_rfl) (by kernel_rfl) (fun _ _ _ h => h) (Or.inl ⟨by rfl, ?_⟩) hHeld ?_
        · intro w' hSw; go_simp
        try simp only [Act.put, List.getElem_toArray, List.getElem_cons_succ, List.getElem_cons_zero, List.setIfInBounds_toArray, List.set_cons_zero, List.set_cons_succ]
        refine wpAnyH_take (i := 17) (v := .bool true) rfl (by kernel_rfl) (by kernel_rfl) (by kernel_rfl) (fun _ _ _ h => h) (Or.inl ⟨by rfl, ?_⟩) hHeld ?_
        · intro w' hSw; go_simp
        try simp only [Act.put, List.getElem_toArray, List.getElem_cons_succ, List.getElem_cons_zero, List.setIfInBounds_toArray, List.set_cons_zero, List.set_cons_succ]
        refine wpAnyH_take (i := 18) (v := .pointer (some ⟨db, 0, none⟩)) rfl (by kernel_rfl) (by kernel_rfl) (by kernel_rfl) (fun _ _ _ h => h) (Or.inl ⟨by rfl, ?_⟩) hHeld ?_
        · intro w' hSw; go_simp
        try simp only [Act.put, List.getElem_toArray, List.getElem_cons_succ, List.getElem_cons_zero, List.setIfInBounds_toArray, List.set_cons_zero, List.set_cons_succ]
        refine wpAnyH_ready (rs := [19]) (by kernel_rfl) (by simp) ?_
        refine allCall (f := 10) (args := #[.int .u8 97]) rfl (by kernel_rfl) ?_ ?_ AllReadyH.nil
        · go_simp
        refine of_any 97 wV _ (fun wW hBW hbW => ⟨_, rfl, hHeld.trans (hBW.mono hsV), ?_⟩)
        have hHeld2 := hHeld.trans (hBW.mono hsV)
        have hsW := hHeld2.size
        have HbW := Lib.hid hbW
        have hbWl := hbW.lt
        clear hBW hbW hHeld HbV
        have hHeld := hHeld2
        clear hHeld2
        try simp only [Act.put, List.getElem_toArray, List.getElem_cons_succ, List.getElem_cons_zero, List.setIfInBounds_toArray, List.set_cons_zero, List.set_cons_succ]
        refine wpAnyH_ready (rs := [20]) (by kernel_rfl) (by simp) ?_
        refine allCall (f := 26) (args := #[.pointer (some ⟨db, 0, none⟩), .int .i64 0, .slice (some ⟨wV.heap.size, 0, none⟩) 128 128]) rfl (by kernel_rfl) ?_ ?_ AllReadyH.nil
        · go_simp
        refine reads_any (fun q => w.heap.size ≤ q ∧ q < wC.heap.size) wV.heap.size (wV.heap.size + 1) db nm4 4 100 0 _ _ wW (HDU.out.below hHeld) nm4_calm (by omega) (ofBytes HbW.out) (by omega) _ (fun wY hBY => ⟨_, rfl, hHeld.trans (hBY.mono hsW), ?_⟩)
        rw [nm4_0]
        have hHeld2 := hHeld.trans (hBY.mono hsW)
        have hsY := hHeld2.size
        clear hBY hHeld HbW hby
        have hHeld := hHeld2
        clear hHeld2
        try simp only [Act.put, List.getElem_toArray, List.getElem_cons_succ, List.getElem_cons_zero, List.setIfInBounds_toArray, List.set_cons_zero, List.set_cons_succ]
        refine wpAnyH_take (i := 21) (v := .bool true) rfl (by kernel_rfl) (by kernel_rfl) (by kernel_rfl) (fun _ _ _ h => h) (Or.inl ⟨by rfl, ?_⟩) hHeld ?_
        · intro w' hSw; go_simp
        try simp only [Act.put, List.getElem_toArray, List.getElem_cons_succ, List.getElem_cons_zero, List.setIfInBounds_toArray, List.set_cons_zero, List.set_cons_succ]
        refine wpAnyH_take (i := 22) (v := .bool true) rfl (by kernel_rfl) (by kernel_rfl) (by kernel_rfl) (fun _ _ _ h => h) (Or.inl ⟨by rfl, ?_⟩) hHeld ?_
        · intro w' hSw; go_simp
        try simp only [Act.put, List.getElem_toArray, List.getElem_cons_succ, List.getElem_cons_zero, List.setIfInBounds_toArray, List.set_cons_zero, List.set_cons_succ]
        refine wpAnyH_take (i := 23) (v := .pointer (some ⟨db, 0, none⟩)) rfl (by kernel_rfl) (by kernel_rfl) (by kernel_rfl) (fun _ _ _ h => h) (Or.inl ⟨by rfl, ?_⟩) hHeld ?_
        · intro w' hSw; go_simp
        try simp only [Act.put, List.getElem_toArray, List.getElem_cons_succ, List.getElem_cons_zero, List.setIfInBounds_toArray, List.set_cons_zero, List.set_cons_succ]
        refine wpAnyH_ready (rs := [24]) (by kernel_rfl) (by simp) ?_
        refine allCall (f := 23) (args := #[.pointer (some ⟨db, 0, none⟩), .int .i64 (-1)]) rfl (by kernel_rfl) ?_ ?_ AllReadyH.nil
        · go_simp
        refine Fuse_any (fun q => w.heap.size ≤ q ∧ q < wC.heap.size) db nm4 (-1) wY (HDU.out.below hHeld) _ (fun _ => ⟨_, rfl, hHeld, ?_⟩) (fun e => absurd e (by decide))
        try simp only [Act.put, List.getElem_toArray, List.getElem_cons_succ, List.getElem_cons_zero, List.setIfInBounds_toArray, List.set_cons_zero, List.set_cons_succ]
        refine wpAnyH_take (i := 25) (v := .bool true) rfl (by kernel_rfl) (by kernel_rfl) (by kernel_rfl) (fun _ _ _ h => h) (Or.inl ⟨by rfl, ?_⟩) hHeld ?_
        · intro w' hSw; go_simp
        try simp only [Act.put, List.getElem_toArray, List.getElem_cons_succ, List.getElem_cons_zero, List.setIfInBounds_toArray, List.set_cons_zero, List.set_cons_succ]
        refine wpAnyH_take (i := 26) (v := .bool true) rfl (by kernel_rfl) (by kernel_rfl) (by kernel_rfl) (fun _ _ _ h => h) (Or.inl ⟨by rfl, ?_⟩) hHeld ?_
        · intro w' hSw; go_simp
        try simp only [Act.put, List.getElem_toArray, List.getElem_cons_succ, List.getElem_cons_zero, List.setIfInBounds_toArray, List.set_cons_zero, List.set_cons_succ]
        refine wpAnyH_take (i := 27) (v := .bool true) rfl (by kernel_rfl) (by kernel_rfl) (by kernel_rfl) (fun _ _ _ h => h) (Or.inl ⟨by rfl, ?_⟩) hHeld ?_
        · intro w' hSw; go_simp
        try simp only [Act.put, List.getElem_toArray, List.getElem_cons_succ, List.getElem_cons_zero, List.setIfInBounds_toArray, List.set_cons_zero, List.set_cons_succ]
        refine wpAnyH_take (i := 28) (v := .pointer (some ⟨db, 0, none⟩)) rfl (by kernel_rfl) (by kernel_rfl) (by kernel_rfl) (fun _ _ _ h => h) (Or.inl ⟨by rfl, ?_⟩) hHeld ?_
        · intro w' hSw; go_simp
        try simp only [Act.put, List.getElem_toArray, List.getElem_cons_succ, List.getElem_cons_zero, List.setIfInBounds_toArray, List.set_cons_zero, List.set_cons_succ]
        refine wpAnyH_ready (rs := [29]) (by kernel_rfl) (by simp) ?_
        refine allCall (f := 27) (args := #[.pointer (some ⟨db, 0, none⟩)]) rfl (by kernel_rfl) ?_ ?_ AllReadyH.nil
        · go_simp
        refine Len_any (fun q => w.heap.size ≤ q ∧ q < wC.heap.size) db nm4 wY (HDU.out.below hHeld) _ ⟨_, rfl, hHeld, ?_⟩
        rw [show nm4.safe.length = 4 by kernel_rfl]
        try simp only [Act.put, List.getElem_toArray, List.getElem_cons_succ, List.getElem_cons_zero, List.setIfInBounds_toArray, List.set_cons_zero, List.set_cons_succ]
        refine wpAnyH_take (i := 30) (v := .bool true) rfl (by kernel_rfl) (by kernel_rfl) (by kernel_rfl) (fun _ _ _ h => h) (Or.inl ⟨by rfl, ?_⟩) hHeld ?_
        · intro w' hSw; go_simp
        try simp only [Act.put, List.getElem_toArray, List.getElem_cons_succ, List.getElem_cons_zero, List.setIfInBounds_toArray, List.set_cons_zero, List.set_cons_succ]
        refine wpAnyH_take (i := 31) (v := .bool true) rfl (by kernel_rfl) (by kernel_rfl) (by kernel_rfl) (fun _ _ _ h => h) (Or.inl ⟨by rfl, ?_⟩) hHeld ?_
        · intro w' hSw; go_simp
        try simp only [Act.put, List.getElem_toArray, List.getElem_cons_succ, List.getElem_cons_zero, List.setIfInBounds_toArray, List.set_cons_zero, List.set_cons_succ]
        refine wpAnyH_take (i := 32) (v := .bool true) rfl (by kernel_rfl) (by kernel_rfl) (by kernel_rfl) (fun _ _ _ h => h) (Or.inl ⟨by rfl, ?_⟩) hHeld ?_
        · intro w' hSw; go_simp
        try simp only [Act.put, List.getElem_toArray, List.getElem_cons_succ, List.getElem_cons_zero, List.setIfInBounds_toArray, List.set_cons_zero, List.set_cons_succ]
        refine wpAnyH_done (by kernel_rfl) ?_ _
        have HBY := Lib.hid (HBU.out.trans (hHeld.mono (by omega)))
        clear hHeld HDU HBU HoU
        go_wp2_with fail
        refine New_no 0 (by omega) wY _ ?_
        go_wp2_with fail
        refine New_no 65537 (by omega) wY _ ?_
        go_wp2_with fail
        have hBZ : Below wY.heap.size wY (wY.alloc (.cells #[.slice none 0 0, .slice none 0 0, .int .i64 0, .bool false, .int .i64 0] 67)) := (Below.refl _ _).alloc (Nat.le_refl _) _
        have hz : NoDisk (wY.alloc (.cells #[.slice none 0 0, .slice none 0 0, .int .i64 0, .bool false, .int .i64 0] 67)) (.pointer (some ⟨wY.heap.size, 0, none⟩)) :=
          .inr ⟨_, rfl, (Blk.new wY [.slice none 0 0, .slice none 0 0, .int .i64 0, .bool false, .int .i64 0] 67 rfl).cells.c5.1⟩
        have HBZ := Lib.hid (HBY.out.trans (hBZ.mono (by omega)))
        have Hz := Lib.hid hz
        have hsZ := hBZ.size
        clear hBZ hz HBY
        generalize wY.alloc (.cells #[.slice none 0 0, .slice none 0 0, .int .i64 0, .bool false, .int .i64 0] 67) = wZ at *
        refine Read_no _ 0 wZ (.inl rfl) _ ?_
        go_wp2_with fail
        refine Safe_no _ 0 wZ Hz.out _ ?_
        go_wp2_with fail
        refine Write_no _ 0 _ wZ Hz.out _ ?_
        go_wp2_with fail
        refine Flush_no _ wZ (.inl rfl) rfl _ (fun xa hBa => ?_)
        have hsa := hBa.size
        have HBa := Lib.hid (HBZ.out.trans (hBa.mono (by omega)))
        have Hza := Lib.hid (Hz.out.below hBa)
        clear hBa HBZ Hz
        go_wp2_with fail
        refine Fuse_no _ (-1) xa (.inl rfl) _ ?_
        go_wp2_with fail
        refine Pull_no _ xa Hza.out _ ?_
        go_wp2_with fail
        refine Up_no _ _ _ _ xa (.inl rfl) _ (fun xb hBb => ?_)
        have hsb := hBb.size
        have HBb := Lib.hid (HBa.out.trans (hBb.mono (by omega)))
        have Hzb := Lib.hid (Hza.out.below hBb)
        clear hBb HBa Hza
        go_wp2_with fail
        refine Down_no _ xb (.inl rfl) _ ?_
        go_wp2_with fail
        refine Ops_no _ xb Hzb.out _ ?_
        go_wp2_with fail
        refine Len_no _ xb (.inl rfl) _ ?_
        go_wp2_with fail
        refine Dirty_no _ xb (.inl rfl) _ ?_
        go_wp2_with fail
        refine Copy_no _ xb (.inl rfl) _ ?_
        go_wp2_with fail
        refine alive_any xb _ (fun xc hBc => ?_)
        have hr := HR.out xc (HBb.out.trans (hBc.mono (by omega)))
        clear hBc HBb Hzb HR
        go_wp2_with fail
        all_goals first | exact hr | exact fin hr rfl
      refine allVal (v := .slice (some ⟨v2.heap.size, 0, none⟩) 127 127) (w' := v2.alloc (.cells ((List.replicate 127 (0 : UInt8)).flatMap bE).toArray 5)) rfl (by kernel_rfl) ?_ trivial ?_ AllReadyH.nil
      · have hmk : (Instr.makeSlice 30 (.int .i64 127) (.int .i64 127)).run Try.prog v2 = .ok (.slice (some ⟨v2.heap.size, 0, none⟩) 127 127) (v2.alloc (.cells ((List.replicate 127 (0 : UInt8)).flatMap bE).toArray 5)) := run_mk 127 (by omega) v2
        go_simp
      have hBn : Below v2.heap.size v2 (v2.alloc (.cells ((List.replicate 127 (0 : UInt8)).flatMap bE).toArray 5)) := (Below.refl _ _).alloc (Nat.le_refl _) _
      have hmn : Blk (v2.alloc (.cells ((List.replicate 127 (0 : UInt8)).flatMap bE).toArray 5)) v2.heap.size ((List.replicate 127 (0 : UInt8)).flatMap bE) 5 := Blk.new _ _ _ rfl
      have hsv60 := hBn.size
      have HDv6 := Lib.hid (HDv2.out.below hBn)
      have HBv6 := Lib.hid (HBv2.out.trans (hBn.mono (by omega)))
      have Hm := Lib.hid hmn
      have hmlt := hmn.lt
      have hm1 : w1.heap.size ≤ v2.heap.size := hsv2
      obtain ⟨bm, hbm⟩ : ∃ bm, bm = v2.heap.size := ⟨_, rfl⟩
      rw [← hbm] at Hm hm1 hmlt
      rw [← hbm]
      have Hb := Lib.hid (Hb.out.below hBn (by omega))
      clear hBn hmn
      generalize v2.alloc (.cells ((List.replicate 127 (0 : UInt8)).flatMap bE).toArray 5) = v6 at *
      clear hbm
      have hsv6 : w1.heap.size ≤ v6.heap.size := by omega
      try simp only [Act.put, List.getElem_toArray, List.getElem_cons_succ, List.getElem_cons_zero, List.setIfInBounds_toArray, List.set_cons_zero, List.set_cons_succ]
      refine wpAnyH_ready (rs := [5]) (by kernel_rfl) (by simp) ?_
      refine allCall (f := 13) (args := #[.pointer (some ⟨db, 0, none⟩), .int .i64 4, .slice (some ⟨bb, 0, none⟩) 128 128]) rfl (by kernel_rfl) ?_ ?_ AllReadyH.nil
      · go_simp
      refine Write_any (fun k => w.heap.size ≤ k ∧ k < w1.heap.size) bb (bb + 1) db (Dk.fresh 4) 4 _ aS v6 HDv6.out (ofBytes Hb.out) Hb.out.lt (fun q hq => by have := hq.2; omega) (by decide) (by decide) (fun l hl => by rw [(List.mem_replicate.1 hl).2]; simp) _ (fun _ => ⟨_, rfl, trivial, ?_⟩) (fun e => absurd e (by decide)) (fun e => absurd e (by decide)) (fun e => absurd e (by decide))
      rw [show upE (Dk.fresh 4).safe.length (Dk.fresh 4).down 4 = 211 by decide]
      try simp only [Act.put, List.getElem_toArray, List.getElem_cons_succ, List.getElem_cons_zero, List.setIfInBounds_toArray, List.set_cons_zero, List.set_cons_succ]
      refine wpAnyH_ready (rs := [8]) (by kernel_rfl) (by simp) ?_
      refine allCall (f := 13) (args := #[.pointer (some ⟨db, 0, none⟩), .int .i64 0, .slice (some ⟨bm, 0, none⟩) 127 127]) rfl (by kernel_rfl) ?_ ?_ AllReadyH.nil
      · go_simp
      refine Write_any (fun k => w.heap.size ≤ k ∧ k < w1.heap.size) bm (bm + 1) db (Dk.fresh 4) 0 _ (List.replicate 127 0) v6 HDv6.out (Bytes.ofCells (c := 127) (l := List.replicate 127 0) Hm.out.cells (Nat.le_refl _) (Nat.lt_succ_self _) (by simp) (by decide)) Hm.out.lt (fun q hq => by have := hq.2; omega) (by decide) (by decide) (fun l hl => by rw [(List.mem_replicate.1 hl).2]; simp) _ (fun e => absurd (by decide : upE (Dk.fresh 4).safe.length (Dk.fresh 4).down 0 = 0) e) (fun _ _ => ⟨_, rfl, trivial, ?_⟩) (fun _ e => absurd e (by simp)) (fun _ e => absurd e (by simp))
      try simp only [Act.put, List.getElem_toArray, List.getElem_cons_succ, List.getElem_cons_zero, List.setIfInBounds_toArray, List.set_cons_zero, List.set_cons_succ]
      refine wpAnyH_take (i := 9) (v := .int .i64 2) rfl (by kernel_rfl) (by kernel_rfl) (by kernel_rfl) (fun _ _ _ h => h) (Or.inl ⟨by rfl, ?_⟩) trivial ?_
      · intro w' hSw; go_simp
      try simp only [Act.put, List.getElem_toArray, List.getElem_cons_succ, List.getElem_cons_zero, List.setIfInBounds_toArray, List.set_cons_zero, List.set_cons_succ]
      refine wpAnyH_take (i := 10) (v := .int .i64 211) rfl (by kernel_rfl) (by kernel_rfl) (by kernel_rfl) (fun _ _ _ h => h) (Or.inl ⟨by rfl, ?_⟩) trivial ?_
      · intro w' hSw; go_simp
      try simp only [Act.put, List.getElem_toArray, List.getElem_cons_succ, List.getElem_cons_zero, List.setIfInBounds_toArray, List.set_cons_zero, List.set_cons_succ]
      refine wpAnyH_take (i := 11) (v := .int .i64 2) rfl (by kernel_rfl) (by kernel_rfl) (by kernel_rfl) (fun _ _ _ h => h) (Or.inl ⟨by rfl, ?_⟩) trivial ?_
      · intro w' hSw; go_simp
      try simp only [Act.put, List.getElem_toArray, List.getElem_cons_succ, List.getElem_cons_zero, List.setIfInBounds_toArray, List.set_cons_zero, List.set_cons_succ]
      refine wpAnyH_done (by kernel_rfl) ?_ _
      clear Hm
      go_wp2_with fail
      refine Fuse_any (fun q => w.heap.size ≤ q ∧ q < w1.heap.size) db _ 1 v6 HDv6.out _ (fun e => absurd e (by decide)) (fun _ wA hOA hsA hDA => ?_)
      have HDA : Hid (DkAt wA (fun q => w.heap.size ≤ q ∧ q < w1.heap.size) db nm1) := Lib.hid hDA
      have HBA := Lib.hid (HBv6.out.trans (hOA.below (B := w.heap.size) (by omega) (fun q e => by omega)))
      clear hOA hDA HDv6 HBv6
      have hsA' : w1.heap.size ≤ wA.heap.size := by omega
      clear hsA
      go_wp2_with fail
      refine of_any 97 wA _ (fun wB hBB hbB => ?_)
      have hsB := hBB.size
      have hbBl := hbB.lt
      have HDB := Lib.hid (HDA.out.below hBB)
      have HBB := Lib.hid (HBA.out.trans (hBB.mono (by omega)))
      have HbB := Lib.hid hbB
      clear hBB hbB HDA HBA
      go_wp2_with fail
      refine Write_any (fun q => w.heap.size ≤ q ∧ q < w1.heap.size) _ (_ + 1) db nm1 0 _ aS wB HDB.out (ofBytes HbB.out) hbBl (fun q hq => by have := hq.2; omega) (by decide) (by decide) (fun l hl => by rw [(List.mem_replicate.1 hl).2]; simp) _ (fun e => absurd (by decide : upE nm1.safe.length nm1.down 0 = 0) e) (fun _ e => absurd (by simp [aS] : aS.length = 128) e) (fun _ _ e => absurd e (by decide)) (fun _ _ _ wC hOC hDC => ?_)
      have hsC := hOC.size
      have HDC : Hid (DkAt wC (fun q => w.heap.size ≤ q ∧ q < wC.heap.size) db nm2) := Lib.hid (hDC.mono (fun q hq => by omega))
      have HBC := Lib.hid (HBB.out.trans (hOC.below (B := w.heap.size) (by omega) (fun q e => e.1)))
      clear hOC hDC HDB HBB HbB
      go_wp2_with fail
      refine of_any 98 wC _ (fun wD hBD hbD => ?_)
      have hsD := hBD.size
      have hbDl := hbD.lt
      have HDD := Lib.hid (HDC.out.below hBD)
      have HBD := Lib.hid (HBC.out.trans (hBD.mono (by omega)))
      have HbD := Lib.hid hbD
      clear hBD hbD HDC HBC
      go_wp2_with fail
      refine Write_any (fun q => w.heap.size ≤ q ∧ q < wC.heap.size) _ (_ + 1) db nm2 0 _ bS wD HDD.out (ofBytes HbD.out) hbDl (fun q hq => by have := hq.2; omega) (by decide) (by decide) nm2_few _ (fun e => absurd (by decide : upE nm2.safe.length nm2.down 0 = 0) e) (fun _ e => absurd (by simp [bS] : bS.length = 128) e) (fun _ _ _ wE hOE hsE hDE => ?_) (fun _ _ e => absurd (by decide : nm2.fuse = 0) e)
      have hsE' : wD.heap.size ≤ wE.heap.size := by omega
      clear hsE
      have HDE : Hid (DkAt wE (fun q => w.heap.size ≤ q ∧ q < wC.heap.size) db nm3) := Lib.hid hDE
      have HBE := Lib.hid (HBD.out.trans (hOE.below (B := w.heap.size) (by omega) (fun q e => e.1)))
      clear hOE hDE HDD HBD HbD
      go_wp2_with fail
      refine Flush_any (fun q => w.heap.size ≤ q ∧ q < wC.heap.size) db nm3 wE HDE.out (fun q hq => by have := hq.2; omega) (by decide) (by decide) _ (fun _ wF hOF hDF => ?_) (fun e => absurd e (by decide)) (fun e => absurd e (by decide))
      have hsF := hOF.size
      have HDF := Lib.hid hDF
      have HBF := Lib.hid (HBE.out.trans (hOF.below (B := w.heap.size) (by omega) (fun q e => e.1)))
      clear hOF hDF HDE HBE
      go_wp2_with fail
      refine Read_any (fun q => w.heap.size ≤ q ∧ q < wC.heap.size) wF.heap.size db nm3 0 wF (Nat.le_refl _) HDF.out _ (fun _ => ?_) (fun _ _ e => absurd e (by decide))
      rw [show upE nm3.safe.length nm3.down 0 = 210 by decide]
      go_wp2_with fail
      refine Down_any (fun q => w.heap.size ≤ q ∧ q < wC.heap.size) db nm3 wF HDF.out _ ?_
      rw [show nm3.down = true from rfl]
      go_wp2_with fail
      refine Ops_any (fun q => w.heap.size ≤ q ∧ q < wC.heap.size) db nm3 wF HDF.out _ ?_
      rw [show nm3.ops = 1 from rfl]
      go_wp2_with fail
      refine Safe_any (fun q => w.heap.size ≤ q ∧ q < wC.heap.size) wF.heap.size db nm3 0 wF (Nat.le_refl _) HDF.out _ (fun e => absurd (by decide : safeE nm3.safe.length 0 = 0) e) (fun wG vG _ hBG hoG => ?_)
      have hsG := hBG.size
      have HDG := Lib.hid (HDF.out.below hBG)
      have HBG := Lib.hid (HBF.out.trans (hBG.mono (by omega)))
      have HoG : Hid (OwnB wF.heap.size wG vG (List.replicate 128 0)) := Lib.hid hoG
      clear hBG hoG HDF HBF
      go_wp2_with fail
      refine Safe_any (fun q => w.heap.size ≤ q ∧ q < wC.heap.size) wG.heap.size db nm3 (-1) wG (Nat.le_refl _) HDG.out _ (fun _ => ?_) (fun _ _ e => absurd e (by decide))
      go_wp2_with fail
      have hBH : Below wG.heap.size wG (wG.alloc (.cells #[.int .u8 9] 5)) := (Below.refl _ _).alloc (Nat.le_refl _) _
      have hkp : Bytes wG.heap.size (wG.heap.size + 1) (wG.alloc (.cells #[.int .u8 9] 5)) (.slice (some ⟨wG.heap.size, 0, none⟩) 1 1) [9] :=
        Bytes.ofCells (c := 1) (l := [9]) (CellsAt.newAt wG [.int .u8 9] 5 rfl) (Nat.le_refl _) (Nat.lt_succ_self _) (by decide) (by decide)
      have hsH : (wG.alloc (.cells #[.int .u8 9] 5)).heap.size = wG.heap.size + 1 := by simp
      have HDH := Lib.hid (HDG.out.below hBH)
      have HBH := Lib.hid (HBG.out.trans (hBH.mono (by omega)))
      have HoH := Lib.hid (Own.kept HoG.out hBH)
      have Hkp := Lib.hid hkp
      clear hBH hkp HDG HBG HoG
      generalize wG.alloc (.cells #[.int .u8 9] 5) = wH at *
      refine Up_any (fun q => w.heap.size ≤ q ∧ q < wC.heap.size) wG.heap.size (wG.heap.size + 1) db nm3 _ [9] (-1) 0 wH HDH.out (fun q hq => by have := hq.2; omega) Hkp.out (by omega) (fun q hq => by have := hq.2; omega) nm2_few _ (fun e => absurd e (by decide)) (fun _ wU hOU hDU => ?_)
      have hsU := hOU.size
      have HDU : Hid (DkAt wU (fun q => w.heap.size ≤ q ∧ q < wC.heap.size) db nm4) := Lib.hid hDU
      have HBU := Lib.hid (HBH.out.trans (hOU.below (B := w.heap.size) (by omega) (fun q e => e.1)))
      have HoU := Lib.hid (Own.same HoH.out (fun g hg => hOU.block g (Own.lt HoH.out g hg).2 (fun e => by have := (Own.lt HoH.out g hg).1; have := e.2; omega)))
      clear hOU hDU HDH HBH HoH Hkp
      go_wp2_with fail
      have hby : ∀ w', Below wU.heap.size wU w' → (convert 30 9 vG).run Try.prog w' = .ok (.string ⟨(List.replicate 128 (0 : UInt8)).toArray⟩) w' := fun w' hB => str (OwnB.bytes (Own.kept HoU.out hB))
      refine wp_region_held_drew (S := fun w' => Below wU.heap.size wU w') (by kernel_rfl) (drewN (Below.refl _ _) 1) (fun hHeld => ?_)
      refine wpAnyH_take (i := 0) (v := .int .i64 0) rfl (by kernel_rfl) (by kernel_rfl) (by kernel_rfl) (fun _ _ _ h => h) (Or.inl ⟨by rfl, ?_⟩) hHeld ?_
      · intro w' hSw; go_simp
      try simp only [Act.put, List.getElem_toArray, List.getElem_cons_succ, List.getElem_cons_zero, List.setIfInBounds_toArray, List.set_cons_zero, List.set_cons_succ]
      refine wpAnyH_take (i := 1) (v := .bool true) rfl (by kernel_rfl) (by kernel_rfl) (by kernel_rfl) (fun _ _ _ h => h) (Or.inl ⟨by rfl, ?_⟩) hHeld ?_
      · intro w' hSw; go_simp
      try simp only [Act.put, List.getElem_toArray, List.getElem_cons_succ, List.getElem_cons_zero, List.setIfInBounds_toArray, List.set_cons_zero, List.set_cons_succ]
      refine wpAnyH_take (i := 2) (v := .bool true) rfl (by kernel_rfl) (by kernel_rfl) (by kernel_rfl) (fun _ _ _ h => h) (Or.inl ⟨by rfl, ?_⟩) hHeld ?_
      · intro w' hSw; go_simp
      try simp only [Act.put, List.getElem_toArray, List.getElem_cons_succ, List.getElem_cons_zero, List.setIfInBounds_toArray, List.set_cons_zero, List.set_cons_succ]
      refine wpAnyH_take (i := 3) (v := vG) rfl (by kernel_rfl) (by kernel_rfl) (by kernel_rfl) (fun _ _ _ h => h) (Or.inl ⟨by rfl, ?_⟩) hHeld ?_
      · intro w' hSw; go_simp
      try simp only [Act.put, List.getElem_toArray, List.getElem_cons_succ, List.getElem_cons_zero, List.setIfInBounds_toArray, List.set_cons_zero, List.set_cons_succ]
      refine wpAnyH_take (i := 4) (v := .string ⟨(List.replicate 128 (0 : UInt8)).toArray⟩) rfl (by kernel_rfl) (by kernel_rfl) (by kernel_rfl) (fun _ _ _ h => h) (Or.inl ⟨by rfl, ?_⟩) hHeld ?_
      · intro w' hSw; have hcc := hby w' hSw; go_simp
      try simp only [Act.put, List.getElem_toArray, List.getElem_cons_succ, List.getElem_cons_zero, List.setIfInBounds_toArray, List.set_cons_zero, List.set_cons_succ]
      refine wpAnyH_ready (rs := [5]) (by kernel_rfl) (by simp) ?_
      refine allCall (f := 10) (args := #[.int .u8 0]) rfl (by kernel_rfl) ?_ ?_ AllReadyH.nil
      · go_simp
      refine of_any 0 wU.drew _ (fun wV hBV hbV => ⟨_, rfl, hHeld.trans hBV, ?_⟩)
      have hHeld2 := hHeld.trans hBV
      have hsV := hHeld2.size
      have HbV : Hid (Blk wV wU.heap.size ((List.replicate 128 (0 : UInt8)).flatMap bE) 5) := Lib.hid hbV
      clear hBV hbV hHeld
      have hHeld := hHeld2
      clear hHeld2
      try simp only [Act.put, List.getElem_toArray, List.getElem_cons_succ, List.getElem_cons_zero, List.setIfInBounds_toArray, List.set_cons_zero, List.set_cons_succ]
      refine wpAnyH_ready (rs := [6]) (by kernel_rfl) (by simp) ?_
      refine allVal (v := .string ⟨(List.replicate 128 (0 : UInt8)).toArray⟩) (w' := wV) rfl (by kernel_rfl) ?_ hHeld ?_ AllReadyH.nil
      · have hcc := str (ofBytes HbV.out)
        go_simp
      try simp only [Act.put, List.getElem_toArray, List.getElem_cons_succ, List.getElem_cons_zero, List.setIfInBounds_toArray, List.set_cons_zero, List.set_cons_succ]
      refine wpAnyH_take (i := 7) (v := .bool true) rfl (by kernel_rfl) (by kernel_rfl) (by kernel_rfl) (fun _ _ _ h => h) (Or.inl ⟨by rfl, ?_⟩) hHeld ?_
      · intro w' hSw; go_simp
      try simp only [Act.put, List.getElem_toArray, List.getElem_cons_succ, List.getElem_cons_zero, List.setIfInBounds_toArray, List.set_cons_zero, List.set_cons_succ]
      refine wpAnyH_take (i := 8) (v := .bool true) rfl (by kernel_rfl) (by kernel_rfl) (by kernel_rfl) (fun _ _ _ h => h) (Or.inl ⟨by rfl, ?_⟩) hHeld ?_
      · intro w' hSw; go_simp
      try simp only [Act.put, List.getElem_toArray, List.getElem_cons_succ, List.getElem_cons_zero, List.setIfInBounds_toArray, List.set_cons_zero, List.set_cons_succ]
      refine wpAnyH_take (i := 9) (v := .bool true) rfl (by kernel_rfl) (by kernel_rfl) (by kernel_rfl) (fun _ _ _ h => h) (Or.inl ⟨by rfl, ?_⟩) hHeld ?_
      · intro w' hSw; go_simp
      try simp only [Act.put, List.getElem_toArray, List.getElem_cons_succ, List.getElem_cons_zero, List.setIfInBounds_toArray, List.set_cons_zero, List.set_cons_succ]
      refine wpAnyH_take (i := 10) (v := .int .i64 211) rfl (by kernel_rfl) (by kernel_rfl) (by kernel_rfl) (fun _ _ _ h => h) (Or.inl ⟨by rfl, ?_⟩) hHeld ?_
      · intro w' hSw; go_simp
      try simp only [Act.put, List.getElem_toArray, List.getElem_cons_succ, List.getElem_cons_zero, List.setIfInBounds_toArray, List.set_cons_zero, List.set_cons_succ]
      refine wpAnyH_take (i := 11) (v := .bool true) rfl (by kernel_rfl) (by kernel_rfl) (by kernel_rfl) (fun _ _ _ h => h) (Or.inl ⟨by rfl, ?_⟩) hHeld ?_
      · intro w' hSw; go_simp
      try simp only [Act.put, List.getElem_toArray, List.getElem_cons_succ, List.getElem_cons_zero, List.setIfInBounds_toArray, List.set_cons_zero, List.set_cons_succ]
      refine wpAnyH_take (i := 12) (v := .bool true) rfl (by kernel_rfl) (by kernel_rfl) (by kernel_rfl) (fun _ _ _ h => h) (Or.inl ⟨by rfl, ?_⟩) hHeld ?_
      · intro w' hSw; go_simp
      try simp only [Act.put, List.getElem_toArray, List.getElem_cons_succ, List.getElem_cons_zero, List.setIfInBounds_toArray, List.set_cons_zero, List.set_cons_succ]
      refine wpAnyH_take (i := 13) (v := .bool true) rfl (by kernel_rfl) (by kernel_rfl) (by kernel_rfl) (fun _ _ _ h => h) (Or.inl ⟨by rfl, ?_⟩) hHeld ?_
      · intro w' hSw; go_simp
      try simp only [Act.put, List.getElem_toArray, List.getElem_cons_succ, List.getElem_cons_zero, List.setIfInBounds_toArray, List.set_cons_zero, List.set_cons_succ]
      refine wpAnyH_take (i := 14) (v := .int .i64 0) rfl (by kernel_rfl) (by kernel_rfl) (by kernel_rfl) (fun _ _ _ h => h) (Or.inl ⟨by rfl, ?_⟩) hHeld ?_
      · intro w' hSw; go_simp
      try simp only [Act.put, List.getElem_toArray, List.getElem_cons_succ, List.getElem_cons_zero, List.setIfInBounds_toArray, List.set_cons_zero, List.set_cons_succ]
      refine wpAnyH_take (i := 15) (v := .bool true) rfl (by kernel_rfl) (by kernel_rfl) (by kernel_rfl) (fun _ _ _ h => h) (Or.inl ⟨by rfl, ?_⟩) hHeld ?_
      · intro w' hSw; go_simp
      try simp only [Act.put, List.getElem_toArray, List.getElem_cons_succ, List.getElem_cons_zero, List.setIfInBounds_toArray, List.set_cons_zero, List.set_cons_succ]
      refine wpAnyH_take (i := 16) (v := .bool true) rfl (by kernel_rfl) (by kernel_rfl) (by kernel_rfl) (fun _ _ _ h => h) (Or.inl ⟨by rfl, ?_⟩) hHeld ?_
      · intro w' hSw; go_simp
      try simp only [Act.put, List.getElem_toArray, List.getElem_cons_succ, List.getElem_cons_zero, List.setIfInBounds_toArray, List.set_cons_zero, List.set_cons_succ]
      refine wpAnyH_take (i := 17) (v := .bool true) rfl (by kernel_rfl) (by kernel_rfl) (by kernel_rfl) (fun _ _ _ h => h) (Or.inl ⟨by rfl, ?_⟩) hHeld ?_
      · intro w' hSw; go_simp
      try simp only [Act.put, List.getElem_toArray, List.getElem_cons_succ, List.getElem_cons_zero, List.setIfInBounds_toArray, List.set_cons_zero, List.set_cons_succ]
      refine wpAnyH_take (i := 18) (v := .pointer (some ⟨db, 0, none⟩)) rfl (by kernel_rfl) (by kernel_rfl) (by kernel_rfl) (fun _ _ _ h => h) (Or.inl ⟨by rfl, ?_⟩) hHeld ?_
      · intro w' hSw; go_simp
      try simp only [Act.put, List.getElem_toArray, List.getElem_cons_succ, List.getElem_cons_zero, List.setIfInBounds_toArray, List.set_cons_zero, List.set_cons_succ]
      refine wpAnyH_ready (rs := [19]) (by kernel_rfl) (by simp) ?_
      refine allCall (f := 10) (args := #[.int .u8 97]) rfl (by kernel_rfl) ?_ ?_ AllReadyH.nil
      · go_simp
      refine of_any 97 wV _ (fun wW hBW hbW => ⟨_, rfl, hHeld.trans (hBW.mono hsV), ?_⟩)
      have hHeld2 := hHeld.trans (hBW.mono hsV)
      have hsW := hHeld2.size
      have HbW := Lib.hid hbW
      have hbWl := hbW.lt
      clear hBW hbW hHeld HbV
      have hHeld := hHeld2
      clear hHeld2
      try simp only [Act.put, List.getElem_toArray, List.getElem_cons_succ, List.getElem_cons_zero, List.setIfInBounds_toArray, List.set_cons_zero, List.set_cons_succ]
      refine wpAnyH_ready (rs := [20]) (by kernel_rfl) (by simp) ?_
      refine allCall (f := 26) (args := #[.pointer (some ⟨db, 0, none⟩), .int .i64 0, .slice (some ⟨wV.heap.size, 0, none⟩) 128 128]) rfl (by kernel_rfl) ?_ ?_ AllReadyH.nil
      · go_simp
      refine reads_any (fun q => w.heap.size ≤ q ∧ q < wC.heap.size) wV.heap.size (wV.heap.size + 1) db nm4 4 100 0 _ _ wW (HDU.out.below hHeld) nm4_calm (by omega) (ofBytes HbW.out) (by omega) _ (fun wY hBY => ⟨_, rfl, hHeld.trans (hBY.mono hsW), ?_⟩)
      rw [nm4_0]
      have hHeld2 := hHeld.trans (hBY.mono hsW)
      have hsY := hHeld2.size
      clear hBY hHeld HbW hby
      have hHeld := hHeld2
      clear hHeld2
      try simp only [Act.put, List.getElem_toArray, List.getElem_cons_succ, List.getElem_cons_zero, List.setIfInBounds_toArray, List.set_cons_zero, List.set_cons_succ]
      refine wpAnyH_take (i := 21) (v := .bool true) rfl (by kernel_rfl) (by kernel_rfl) (by kernel_rfl) (fun _ _ _ h => h) (Or.inl ⟨by rfl, ?_⟩) hHeld ?_
      · intro w' hSw; go_simp
      try simp only [Act.put, List.getElem_toArray, List.getElem_cons_succ, List.getElem_cons_zero, List.setIfInBounds_toArray, List.set_cons_zero, List.set_cons_succ]
      refine wpAnyH_take (i := 22) (v := .bool true) rfl (by kernel_rfl) (by kernel_rfl) (by kernel_rfl) (fun _ _ _ h => h) (Or.inl ⟨by rfl, ?_⟩) hHeld ?_
      · intro w' hSw; go_simp
      try simp only [Act.put, List.getElem_toArray, List.getElem_cons_succ, List.getElem_cons_zero, List.setIfInBounds_toArray, List.set_cons_zero, List.set_cons_succ]
      refine wpAnyH_take (i := 23) (v := .pointer (some ⟨db, 0, none⟩)) rfl (by kernel_rfl) (by kernel_rfl) (by kernel_rfl) (fun _ _ _ h => h) (Or.inl ⟨by rfl, ?_⟩) hHeld ?_
      · intro w' hSw; go_simp
      try simp only [Act.put, List.getElem_toArray, List.getElem_cons_succ, List.getElem_cons_zero, List.setIfInBounds_toArray, List.set_cons_zero, List.set_cons_succ]
      refine wpAnyH_ready (rs := [24]) (by kernel_rfl) (by simp) ?_
      refine allCall (f := 23) (args := #[.pointer (some ⟨db, 0, none⟩), .int .i64 (-1)]) rfl (by kernel_rfl) ?_ ?_ AllReadyH.nil
      · go_simp
      refine Fuse_any (fun q => w.heap.size ≤ q ∧ q < wC.heap.size) db nm4 (-1) wY (HDU.out.below hHeld) _ (fun _ => ⟨_, rfl, hHeld, ?_⟩) (fun e => absurd e (by decide))
      try simp only [Act.put, List.getElem_toArray, List.getElem_cons_succ, List.getElem_cons_zero, List.setIfInBounds_toArray, List.set_cons_zero, List.set_cons_succ]
      refine wpAnyH_take (i := 25) (v := .bool true) rfl (by kernel_rfl) (by kernel_rfl) (by kernel_rfl) (fun _ _ _ h => h) (Or.inl ⟨by rfl, ?_⟩) hHeld ?_
      · intro w' hSw; go_simp
      try simp only [Act.put, List.getElem_toArray, List.getElem_cons_succ, List.getElem_cons_zero, List.setIfInBounds_toArray, List.set_cons_zero, List.set_cons_succ]
      refine wpAnyH_take (i := 26) (v := .bool true) rfl (by kernel_rfl) (by kernel_rfl) (by kernel_rfl) (fun _ _ _ h => h) (Or.inl ⟨by rfl, ?_⟩) hHeld ?_
      · intro w' hSw; go_simp
      try simp only [Act.put, List.getElem_toArray, List.getElem_cons_succ, List.getElem_cons_zero, List.setIfInBounds_toArray, List.set_cons_zero, List.set_cons_succ]
      refine wpAnyH_take (i := 27) (v := .bool true) rfl (by kernel_rfl) (by kernel_rfl) (by kernel_rfl) (fun _ _ _ h => h) (Or.inl ⟨by rfl, ?_⟩) hHeld ?_
      · intro w' hSw; go_simp
      try simp only [Act.put, List.getElem_toArray, List.getElem_cons_succ, List.getElem_cons_zero, List.setIfInBounds_toArray, List.set_cons_zero, List.set_cons_succ]
      refine wpAnyH_take (i := 28) (v := .pointer (some ⟨db, 0, none⟩)) rfl (by kernel_rfl) (by kernel_rfl) (by kernel_rfl) (fun _ _ _ h => h) (Or.inl ⟨by rfl, ?_⟩) hHeld ?_
      · intro w' hSw; go_simp
      try simp only [Act.put, List.getElem_toArray, List.getElem_cons_succ, List.getElem_cons_zero, List.setIfInBounds_toArray, List.set_cons_zero, List.set_cons_succ]
      refine wpAnyH_ready (rs := [29]) (by kernel_rfl) (by simp) ?_
      refine allCall (f := 27) (args := #[.pointer (some ⟨db, 0, none⟩)]) rfl (by kernel_rfl) ?_ ?_ AllReadyH.nil
      · go_simp
      refine Len_any (fun q => w.heap.size ≤ q ∧ q < wC.heap.size) db nm4 wY (HDU.out.below hHeld) _ ⟨_, rfl, hHeld, ?_⟩
      rw [show nm4.safe.length = 4 by kernel_rfl]
      try simp only [Act.put, List.getElem_toArray, List.getElem_cons_succ, List.getElem_cons_zero, List.setIfInBounds_toArray, List.set_cons_zero, List.set_cons_succ]
      refine wpAnyH_take (i := 30) (v := .bool true) rfl (by kernel_rfl) (by kernel_rfl) (by kernel_rfl) (fun _ _ _ h => h) (Or.inl ⟨by rfl, ?_⟩) hHeld ?_
      · intro w' hSw; go_simp
      try simp only [Act.put, List.getElem_toArray, List.getElem_cons_succ, List.getElem_cons_zero, List.setIfInBounds_toArray, List.set_cons_zero, List.set_cons_succ]
      refine wpAnyH_take (i := 31) (v := .bool true) rfl (by kernel_rfl) (by kernel_rfl) (by kernel_rfl) (fun _ _ _ h => h) (Or.inl ⟨by rfl, ?_⟩) hHeld ?_
      · intro w' hSw; go_simp
      try simp only [Act.put, List.getElem_toArray, List.getElem_cons_succ, List.getElem_cons_zero, List.setIfInBounds_toArray, List.set_cons_zero, List.set_cons_succ]
      refine wpAnyH_take (i := 32) (v := .bool true) rfl (by kernel_rfl) (by kernel_rfl) (by kernel_rfl) (fun _ _ _ h => h) (Or.inl ⟨by rfl, ?_⟩) hHeld ?_
      · intro w' hSw; go_simp
      try simp only [Act.put, List.getElem_toArray, List.getElem_cons_succ, List.getElem_cons_zero, List.setIfInBounds_toArray, List.set_cons_zero, List.set_cons_succ]
      refine wpAnyH_done (by kernel_rfl) ?_ _
      have HBY := Lib.hid (HBU.out.trans (hHeld.mono (by omega)))
      clear hHeld HDU HBU HoU
      go_wp2_with fail
      refine New_no 0 (by omega) wY _ ?_
      go_wp2_with fail
      refine New_no 65537 (by omega) wY _ ?_
      go_wp2_with fail
      have hBZ : Below wY.heap.size wY (wY.alloc (.cells #[.slice none 0 0, .slice none 0 0, .int .i64 0, .bool false, .int .i64 0] 67)) := (Below.refl _ _).alloc (Nat.le_refl _) _
      have hz : NoDisk (wY.alloc (.cells #[.slice none 0 0, .slice none 0 0, .int .i64 0, .bool false, .int .i64 0] 67)) (.pointer (some ⟨wY.heap.size, 0, none⟩)) :=
        .inr ⟨_, rfl, (Blk.new wY [.slice none 0 0, .slice none 0 0, .int .i64 0, .bool false, .int .i64 0] 67 rfl).cells.c5.1⟩
      have HBZ := Lib.hid (HBY.out.trans (hBZ.mono (by omega)))
      have Hz := Lib.hid hz
      have hsZ := hBZ.size
      clear hBZ hz HBY
      generalize wY.alloc (.cells #[.slice none 0 0, .slice none 0 0, .int .i64 0, .bool false, .int .i64 0] 67) = wZ at *
      refine Read_no _ 0 wZ (.inl rfl) _ ?_
      go_wp2_with fail
      refine Safe_no _ 0 wZ Hz.out _ ?_
      go_wp2_with fail
      refine Write_no _ 0 _ wZ Hz.out _ ?_
      go_wp2_with fail
      refine Flush_no _ wZ (.inl rfl) rfl _ (fun xa hBa => ?_)
      have hsa := hBa.size
      have HBa := Lib.hid (HBZ.out.trans (hBa.mono (by omega)))
      have Hza := Lib.hid (Hz.out.below hBa)
      clear hBa HBZ Hz
      go_wp2_with fail
      refine Fuse_no _ (-1) xa (.inl rfl) _ ?_
      go_wp2_with fail
      refine Pull_no _ xa Hza.out _ ?_
      go_wp2_with fail
      refine Up_no _ _ _ _ xa (.inl rfl) _ (fun xb hBb => ?_)
      have hsb := hBb.size
      have HBb := Lib.hid (HBa.out.trans (hBb.mono (by omega)))
      have Hzb := Lib.hid (Hza.out.below hBb)
      clear hBb HBa Hza
      go_wp2_with fail
      refine Down_no _ xb (.inl rfl) _ ?_
      go_wp2_with fail
      refine Ops_no _ xb Hzb.out _ ?_
      go_wp2_with fail
      refine Len_no _ xb (.inl rfl) _ ?_
      go_wp2_with fail
      refine Dirty_no _ xb (.inl rfl) _ ?_
      go_wp2_with fail
      refine Copy_no _ xb (.inl rfl) _ ?_
      go_wp2_with fail
      refine alive_any xb _ (fun xc hBc => ?_)
      have hr := HR.out xc (HBb.out.trans (hBc.mono (by omega)))
      clear hBc HBb Hzb HR
      go_wp2_with fail
      all_goals first | exact hr | exact fin hr rfl
    refine allVal (v := .slice (some ⟨v1.heap.size, 0, none⟩) 127 127) (w' := v1.alloc (.cells ((List.replicate 127 (0 : UInt8)).flatMap bE).toArray 5)) rfl (by kernel_rfl) ?_ trivial ?_ AllReadyH.nil
    · have hmk : (Instr.makeSlice 30 (.int .i64 127) (.int .i64 127)).run Try.prog v1 = .ok (.slice (some ⟨v1.heap.size, 0, none⟩) 127 127) (v1.alloc (.cells ((List.replicate 127 (0 : UInt8)).flatMap bE).toArray 5)) := run_mk 127 (by omega) v1
      go_simp
    have hBn : Below v1.heap.size v1 (v1.alloc (.cells ((List.replicate 127 (0 : UInt8)).flatMap bE).toArray 5)) := (Below.refl _ _).alloc (Nat.le_refl _) _
    have hmn : Blk (v1.alloc (.cells ((List.replicate 127 (0 : UInt8)).flatMap bE).toArray 5)) v1.heap.size ((List.replicate 127 (0 : UInt8)).flatMap bE) 5 := Blk.new _ _ _ rfl
    have hsv90 := hBn.size
    have HDv9 := Lib.hid (HDv1.out.below hBn)
    have HBv9 := Lib.hid (HBv1.out.trans (hBn.mono (by omega)))
    have Hm := Lib.hid hmn
    have hmlt := hmn.lt
    have hm1 : w1.heap.size ≤ v1.heap.size := hsv1
    obtain ⟨bm, hbm⟩ : ∃ bm, bm = v1.heap.size := ⟨_, rfl⟩
    rw [← hbm] at Hm hm1 hmlt
    rw [← hbm]
    clear hBn hmn
    generalize v1.alloc (.cells ((List.replicate 127 (0 : UInt8)).flatMap bE).toArray 5) = v9 at *
    clear hbm
    have hsv9 : w1.heap.size ≤ v9.heap.size := by omega
    try simp only [Act.put, List.getElem_toArray, List.getElem_cons_succ, List.getElem_cons_zero, List.setIfInBounds_toArray, List.set_cons_zero, List.set_cons_succ]
    refine wpAnyH_ready (rs := [4]) (by kernel_rfl) (by simp) ?_
    refine allCall (f := 10) (args := #[.int .u8 97]) rfl (by kernel_rfl) ?_ ?_ AllReadyH.nil
    · go_simp
    refine of_any 97 v9 _ (fun v10 hBn hbn => ⟨_, rfl, trivial, ?_⟩)
    have hsn0 := hBn.size
    have HDv10 := Lib.hid (HDv9.out.below hBn)
    have HBv10 := Lib.hid (HBv9.out.trans (hBn.mono (by omega)))
    have hsv10 : w1.heap.size ≤ v10.heap.size := by omega
    have Hb := Lib.hid hbn
    have hblt := hbn.lt
    have hb1 : w1.heap.size ≤ v9.heap.size := hsv9
    have Hm := Lib.hid (Hm.out.below hBn (by omega))
    clear hBn hbn
    obtain ⟨bb, hbb⟩ : ∃ bb, bb = v9.heap.size := ⟨_, rfl⟩
    rw [← hbb] at Hb hb1 hblt
    rw [← hbb]
    clear hbb
    try simp only [Act.put, List.getElem_toArray, List.getElem_cons_succ, List.getElem_cons_zero, List.setIfInBounds_toArray, List.set_cons_zero, List.set_cons_succ]
    refine wpAnyH_ready (rs := [5]) (by kernel_rfl) (by simp) ?_
    refine allCall (f := 13) (args := #[.pointer (some ⟨db, 0, none⟩), .int .i64 4, .slice (some ⟨bb, 0, none⟩) 128 128]) rfl (by kernel_rfl) ?_ ?_ AllReadyH.nil
    · go_simp
    refine Write_any (fun k => w.heap.size ≤ k ∧ k < w1.heap.size) bb (bb + 1) db (Dk.fresh 4) 4 _ aS v10 HDv10.out (ofBytes Hb.out) Hb.out.lt (fun q hq => by have := hq.2; omega) (by decide) (by decide) (fun l hl => by rw [(List.mem_replicate.1 hl).2]; simp) _ (fun _ => ⟨_, rfl, trivial, ?_⟩) (fun e => absurd e (by decide)) (fun e => absurd e (by decide)) (fun e => absurd e (by decide))
    rw [show upE (Dk.fresh 4).safe.length (Dk.fresh 4).down 4 = 211 by decide]
    try simp only [Act.put, List.getElem_toArray, List.getElem_cons_succ, List.getElem_cons_zero, List.setIfInBounds_toArray, List.set_cons_zero, List.set_cons_succ]
    refine wpAnyH_ready (rs := [8]) (by kernel_rfl) (by simp) ?_
    refine allCall (f := 13) (args := #[.pointer (some ⟨db, 0, none⟩), .int .i64 0, .slice (some ⟨bm, 0, none⟩) 127 127]) rfl (by kernel_rfl) ?_ ?_ AllReadyH.nil
    · go_simp
    refine Write_any (fun k => w.heap.size ≤ k ∧ k < w1.heap.size) bm (bm + 1) db (Dk.fresh 4) 0 _ (List.replicate 127 0) v10 HDv10.out (Bytes.ofCells (c := 127) (l := List.replicate 127 0) Hm.out.cells (Nat.le_refl _) (Nat.lt_succ_self _) (by simp) (by decide)) Hm.out.lt (fun q hq => by have := hq.2; omega) (by decide) (by decide) (fun l hl => by rw [(List.mem_replicate.1 hl).2]; simp) _ (fun e => absurd (by decide : upE (Dk.fresh 4).safe.length (Dk.fresh 4).down 0 = 0) e) (fun _ _ => ⟨_, rfl, trivial, ?_⟩) (fun _ e => absurd e (by simp)) (fun _ e => absurd e (by simp))
    try simp only [Act.put, List.getElem_toArray, List.getElem_cons_succ, List.getElem_cons_zero, List.setIfInBounds_toArray, List.set_cons_zero, List.set_cons_succ]
    refine wpAnyH_take (i := 9) (v := .int .i64 2) rfl (by kernel_rfl) (by kernel_rfl) (by kernel_rfl) (fun _ _ _ h => h) (Or.inl ⟨by rfl, ?_⟩) trivial ?_
    · intro w' hSw; go_simp
    try simp only [Act.put, List.getElem_toArray, List.getElem_cons_succ, List.getElem_cons_zero, List.setIfInBounds_toArray, List.set_cons_zero, List.set_cons_succ]
    refine wpAnyH_take (i := 10) (v := .int .i64 211) rfl (by kernel_rfl) (by kernel_rfl) (by kernel_rfl) (fun _ _ _ h => h) (Or.inl ⟨by rfl, ?_⟩) trivial ?_
    · intro w' hSw; go_simp
    try simp only [Act.put, List.getElem_toArray, List.getElem_cons_succ, List.getElem_cons_zero, List.setIfInBounds_toArray, List.set_cons_zero, List.set_cons_succ]
    refine wpAnyH_take (i := 11) (v := .int .i64 2) rfl (by kernel_rfl) (by kernel_rfl) (by kernel_rfl) (fun _ _ _ h => h) (Or.inl ⟨by rfl, ?_⟩) trivial ?_
    · intro w' hSw; go_simp
    try simp only [Act.put, List.getElem_toArray, List.getElem_cons_succ, List.getElem_cons_zero, List.setIfInBounds_toArray, List.set_cons_zero, List.set_cons_succ]
    refine wpAnyH_done (by kernel_rfl) ?_ _
    clear Hm
    go_wp2_with fail
    refine Fuse_any (fun q => w.heap.size ≤ q ∧ q < w1.heap.size) db _ 1 v10 HDv10.out _ (fun e => absurd e (by decide)) (fun _ wA hOA hsA hDA => ?_)
    have HDA : Hid (DkAt wA (fun q => w.heap.size ≤ q ∧ q < w1.heap.size) db nm1) := Lib.hid hDA
    have HBA := Lib.hid (HBv10.out.trans (hOA.below (B := w.heap.size) (by omega) (fun q e => by omega)))
    clear hOA hDA HDv10 HBv10
    have hsA' : w1.heap.size ≤ wA.heap.size := by omega
    clear hsA
    go_wp2_with fail
    refine of_any 97 wA _ (fun wB hBB hbB => ?_)
    have hsB := hBB.size
    have hbBl := hbB.lt
    have HDB := Lib.hid (HDA.out.below hBB)
    have HBB := Lib.hid (HBA.out.trans (hBB.mono (by omega)))
    have HbB := Lib.hid hbB
    clear hBB hbB HDA HBA
    go_wp2_with fail
    refine Write_any (fun q => w.heap.size ≤ q ∧ q < w1.heap.size) _ (_ + 1) db nm1 0 _ aS wB HDB.out (ofBytes HbB.out) hbBl (fun q hq => by have := hq.2; omega) (by decide) (by decide) (fun l hl => by rw [(List.mem_replicate.1 hl).2]; simp) _ (fun e => absurd (by decide : upE nm1.safe.length nm1.down 0 = 0) e) (fun _ e => absurd (by simp [aS] : aS.length = 128) e) (fun _ _ e => absurd e (by decide)) (fun _ _ _ wC hOC hDC => ?_)
    have hsC := hOC.size
    have HDC : Hid (DkAt wC (fun q => w.heap.size ≤ q ∧ q < wC.heap.size) db nm2) := Lib.hid (hDC.mono (fun q hq => by omega))
    have HBC := Lib.hid (HBB.out.trans (hOC.below (B := w.heap.size) (by omega) (fun q e => e.1)))
    clear hOC hDC HDB HBB HbB
    go_wp2_with fail
    refine of_any 98 wC _ (fun wD hBD hbD => ?_)
    have hsD := hBD.size
    have hbDl := hbD.lt
    have HDD := Lib.hid (HDC.out.below hBD)
    have HBD := Lib.hid (HBC.out.trans (hBD.mono (by omega)))
    have HbD := Lib.hid hbD
    clear hBD hbD HDC HBC
    go_wp2_with fail
    refine Write_any (fun q => w.heap.size ≤ q ∧ q < wC.heap.size) _ (_ + 1) db nm2 0 _ bS wD HDD.out (ofBytes HbD.out) hbDl (fun q hq => by have := hq.2; omega) (by decide) (by decide) nm2_few _ (fun e => absurd (by decide : upE nm2.safe.length nm2.down 0 = 0) e) (fun _ e => absurd (by simp [bS] : bS.length = 128) e) (fun _ _ _ wE hOE hsE hDE => ?_) (fun _ _ e => absurd (by decide : nm2.fuse = 0) e)
    have hsE' : wD.heap.size ≤ wE.heap.size := by omega
    clear hsE
    have HDE : Hid (DkAt wE (fun q => w.heap.size ≤ q ∧ q < wC.heap.size) db nm3) := Lib.hid hDE
    have HBE := Lib.hid (HBD.out.trans (hOE.below (B := w.heap.size) (by omega) (fun q e => e.1)))
    clear hOE hDE HDD HBD HbD
    go_wp2_with fail
    refine Flush_any (fun q => w.heap.size ≤ q ∧ q < wC.heap.size) db nm3 wE HDE.out (fun q hq => by have := hq.2; omega) (by decide) (by decide) _ (fun _ wF hOF hDF => ?_) (fun e => absurd e (by decide)) (fun e => absurd e (by decide))
    have hsF := hOF.size
    have HDF := Lib.hid hDF
    have HBF := Lib.hid (HBE.out.trans (hOF.below (B := w.heap.size) (by omega) (fun q e => e.1)))
    clear hOF hDF HDE HBE
    go_wp2_with fail
    refine Read_any (fun q => w.heap.size ≤ q ∧ q < wC.heap.size) wF.heap.size db nm3 0 wF (Nat.le_refl _) HDF.out _ (fun _ => ?_) (fun _ _ e => absurd e (by decide))
    rw [show upE nm3.safe.length nm3.down 0 = 210 by decide]
    go_wp2_with fail
    refine Down_any (fun q => w.heap.size ≤ q ∧ q < wC.heap.size) db nm3 wF HDF.out _ ?_
    rw [show nm3.down = true from rfl]
    go_wp2_with fail
    refine Ops_any (fun q => w.heap.size ≤ q ∧ q < wC.heap.size) db nm3 wF HDF.out _ ?_
    rw [show nm3.ops = 1 from rfl]
    go_wp2_with fail
    refine Safe_any (fun q => w.heap.size ≤ q ∧ q < wC.heap.size) wF.heap.size db nm3 0 wF (Nat.le_refl _) HDF.out _ (fun e => absurd (by decide : safeE nm3.safe.length 0 = 0) e) (fun wG vG _ hBG hoG => ?_)
    have hsG := hBG.size
    have HDG := Lib.hid (HDF.out.below hBG)
    have HBG := Lib.hid (HBF.out.trans (hBG.mono (by omega)))
    have HoG : Hid (OwnB wF.heap.size wG vG (List.replicate 128 0)) := Lib.hid hoG
    clear hBG hoG HDF HBF
    go_wp2_with fail
    refine Safe_any (fun q => w.heap.size ≤ q ∧ q < wC.heap.size) wG.heap.size db nm3 (-1) wG (Nat.le_refl _) HDG.out _ (fun _ => ?_) (fun _ _ e => absurd e (by decide))
    go_wp2_with fail
    have hBH : Below wG.heap.size wG (wG.alloc (.cells #[.int .u8 9] 5)) := (Below.refl _ _).alloc (Nat.le_refl _) _
    have hkp : Bytes wG.heap.size (wG.heap.size + 1) (wG.alloc (.cells #[.int .u8 9] 5)) (.slice (some ⟨wG.heap.size, 0, none⟩) 1 1) [9] :=
      Bytes.ofCells (c := 1) (l := [9]) (CellsAt.newAt wG [.int .u8 9] 5 rfl) (Nat.le_refl _) (Nat.lt_succ_self _) (by decide) (by decide)
    have hsH : (wG.alloc (.cells #[.int .u8 9] 5)).heap.size = wG.heap.size + 1 := by simp
    have HDH := Lib.hid (HDG.out.below hBH)
    have HBH := Lib.hid (HBG.out.trans (hBH.mono (by omega)))
    have HoH := Lib.hid (Own.kept HoG.out hBH)
    have Hkp := Lib.hid hkp
    clear hBH hkp HDG HBG HoG
    generalize wG.alloc (.cells #[.int .u8 9] 5) = wH at *
    refine Up_any (fun q => w.heap.size ≤ q ∧ q < wC.heap.size) wG.heap.size (wG.heap.size + 1) db nm3 _ [9] (-1) 0 wH HDH.out (fun q hq => by have := hq.2; omega) Hkp.out (by omega) (fun q hq => by have := hq.2; omega) nm2_few _ (fun e => absurd e (by decide)) (fun _ wU hOU hDU => ?_)
    have hsU := hOU.size
    have HDU : Hid (DkAt wU (fun q => w.heap.size ≤ q ∧ q < wC.heap.size) db nm4) := Lib.hid hDU
    have HBU := Lib.hid (HBH.out.trans (hOU.below (B := w.heap.size) (by omega) (fun q e => e.1)))
    have HoU := Lib.hid (Own.same HoH.out (fun g hg => hOU.block g (Own.lt HoH.out g hg).2 (fun e => by have := (Own.lt HoH.out g hg).1; have := e.2; omega)))
    clear hOU hDU HDH HBH HoH Hkp
    go_wp2_with fail
    have hby : ∀ w', Below wU.heap.size wU w' → (convert 30 9 vG).run Try.prog w' = .ok (.string ⟨(List.replicate 128 (0 : UInt8)).toArray⟩) w' := fun w' hB => str (OwnB.bytes (Own.kept HoU.out hB))
    refine wp_region_held_drew (S := fun w' => Below wU.heap.size wU w') (by kernel_rfl) (drewN (Below.refl _ _) 1) (fun hHeld => ?_)
    refine wpAnyH_take (i := 0) (v := .int .i64 0) rfl (by kernel_rfl) (by kernel_rfl) (by kernel_rfl) (fun _ _ _ h => h) (Or.inl ⟨by rfl, ?_⟩) hHeld ?_
    · intro w' hSw; go_simp
    try simp only [Act.put, List.getElem_toArray, List.getElem_cons_succ, List.getElem_cons_zero, List.setIfInBounds_toArray, List.set_cons_zero, List.set_cons_succ]
    refine wpAnyH_take (i := 1) (v := .bool true) rfl (by kernel_rfl) (by kernel_rfl) (by kernel_rfl) (fun _ _ _ h => h) (Or.inl ⟨by rfl, ?_⟩) hHeld ?_
    · intro w' hSw; go_simp
    try simp only [Act.put, List.getElem_toArray, List.getElem_cons_succ, List.getElem_cons_zero, List.setIfInBounds_toArray, List.set_cons_zero, List.set_cons_succ]
    refine wpAnyH_take (i := 2) (v := .bool true) rfl (by kernel_rfl) (by kernel_rfl) (by kernel_rfl) (fun _ _ _ h => h) (Or.inl ⟨by rfl, ?_⟩) hHeld ?_
    · intro w' hSw; go_simp
    try simp only [Act.put, List.getElem_toArray, List.getElem_cons_succ, List.getElem_cons_zero, List.setIfInBounds_toArray, List.set_cons_zero, List.set_cons_succ]
    refine wpAnyH_take (i := 3) (v := vG) rfl (by kernel_rfl) (by kernel_rfl) (by kernel_rfl) (fun _ _ _ h => h) (Or.inl ⟨by rfl, ?_⟩) hHeld ?_
    · intro w' hSw; go_simp
    try simp only [Act.put, List.getElem_toArray, List.getElem_cons_succ, List.getElem_cons_zero, List.setIfInBounds_toArray, List.set_cons_zero, List.set_cons_succ]
    refine wpAnyH_take (i := 4) (v := .string ⟨(List.replicate 128 (0 : UInt8)).toArray⟩) rfl (by kernel_rfl) (by kernel_rfl) (by kernel_rfl) (fun _ _ _ h => h) (Or.inl ⟨by rfl, ?_⟩) hHeld ?_
    · intro w' hSw; have hcc := hby w' hSw; go_simp
    try simp only [Act.put, List.getElem_toArray, List.getElem_cons_succ, List.getElem_cons_zero, List.setIfInBounds_toArray, List.set_cons_zero, List.set_cons_succ]
    refine wpAnyH_ready (rs := [5]) (by kernel_rfl) (by simp) ?_
    refine allCall (f := 10) (args := #[.int .u8 0]) rfl (by kernel_rfl) ?_ ?_ AllReadyH.nil
    · go_simp
    refine of_any 0 wU.drew _ (fun wV hBV hbV => ⟨_, rfl, hHeld.trans hBV, ?_⟩)
    have hHeld2 := hHeld.trans hBV
    have hsV := hHeld2.size
    have HbV : Hid (Blk wV wU.heap.size ((List.replicate 128 (0 : UInt8)).flatMap bE) 5) := Lib.hid hbV
    clear hBV hbV hHeld
    have hHeld := hHeld2
    clear hHeld2
    try simp only [Act.put, List.getElem_toArray, List.getElem_cons_succ, List.getElem_cons_zero, List.setIfInBounds_toArray, List.set_cons_zero, List.set_cons_succ]
    refine wpAnyH_ready (rs := [6]) (by kernel_rfl) (by simp) ?_
    refine allVal (v := .string ⟨(List.replicate 128 (0 : UInt8)).toArray⟩) (w' := wV) rfl (by kernel_rfl) ?_ hHeld ?_ AllReadyH.nil
    · have hcc := str (ofBytes HbV.out)
      go_simp
    try simp only [Act.put, List.getElem_toArray, List.getElem_cons_succ, List.getElem_cons_zero, List.setIfInBounds_toArray, List.set_cons_zero, List.set_cons_succ]
    refine wpAnyH_take (i := 7) (v := .bool true) rfl (by kernel_rfl) (by kernel_rfl) (by kernel_rfl) (fun _ _ _ h => h) (Or.inl ⟨by rfl, ?_⟩) hHeld ?_
    · intro w' hSw; go_simp
    try simp only [Act.put, List.getElem_toArray, List.getElem_cons_succ, List.getElem_cons_zero, List.setIfInBounds_toArray, List.set_cons_zero, List.set_cons_succ]
    refine wpAnyH_take (i := 8) (v := .bool true) rfl (by kernel_rfl) (by kernel_rfl) (by kernel_rfl) (fun _ _ _ h => h) (Or.inl ⟨by rfl, ?_⟩) hHeld ?_
    · intro w' hSw; go_simp
    try simp only [Act.put, List.getElem_toArray, List.getElem_cons_succ, List.getElem_cons_zero, List.setIfInBounds_toArray, List.set_cons_zero, List.set_cons_succ]
    refine wpAnyH_take (i := 9) (v := .bool true) rfl (by kernel_rfl) (by kernel_rfl) (by kernel_rfl) (fun _ _ _ h => h) (Or.inl ⟨by rfl, ?_⟩) hHeld ?_
    · intro w' hSw; go_simp
    try simp only [Act.put, List.getElem_toArray, List.getElem_cons_succ, List.getElem_cons_zero, List.setIfInBounds_toArray, List.set_cons_zero, List.set_cons_succ]
    refine wpAnyH_take (i := 10) (v := .int .i64 211) rfl (by kernel_rfl) (by kernel_rfl) (by kernel_rfl) (fun _ _ _ h => h) (Or.inl ⟨by rfl, ?_⟩) hHeld ?_
    · intro w' hSw; go_simp
    try simp only [Act.put, List.getElem_toArray, List.getElem_cons_succ, List.getElem_cons_zero, List.setIfInBounds_toArray, List.set_cons_zero, List.set_cons_succ]
    refine wpAnyH_take (i := 11) (v := .bool true) rfl (by kernel_rfl) (by kernel_rfl) (by kernel_rfl) (fun _ _ _ h => h) (Or.inl ⟨by rfl, ?_⟩) hHeld ?_
    · intro w' hSw; go_simp
    try simp only [Act.put, List.getElem_toArray, List.getElem_cons_succ, List.getElem_cons_zero, List.setIfInBounds_toArray, List.set_cons_zero, List.set_cons_succ]
    refine wpAnyH_take (i := 12) (v := .bool true) rfl (by kernel_rfl) (by kernel_rfl) (by kernel_rfl) (fun _ _ _ h => h) (Or.inl ⟨by rfl, ?_⟩) hHeld ?_
    · intro w' hSw; go_simp
    try simp only [Act.put, List.getElem_toArray, List.getElem_cons_succ, List.getElem_cons_zero, List.setIfInBounds_toArray, List.set_cons_zero, List.set_cons_succ]
    refine wpAnyH_take (i := 13) (v := .bool true) rfl (by kernel_rfl) (by kernel_rfl) (by kernel_rfl) (fun _ _ _ h => h) (Or.inl ⟨by rfl, ?_⟩) hHeld ?_
    · intro w' hSw; go_simp
    try simp only [Act.put, List.getElem_toArray, List.getElem_cons_succ, List.getElem_cons_zero, List.setIfInBounds_toArray, List.set_cons_zero, List.set_cons_succ]
    refine wpAnyH_take (i := 14) (v := .int .i64 0) rfl (by kernel_rfl) (by kernel_rfl) (by kernel_rfl) (fun _ _ _ h => h) (Or.inl ⟨by rfl, ?_⟩) hHeld ?_
    · intro w' hSw; go_simp
    try simp only [Act.put, List.getElem_toArray, List.getElem_cons_succ, List.getElem_cons_zero, List.setIfInBounds_toArray, List.set_cons_zero, List.set_cons_succ]
    refine wpAnyH_take (i := 15) (v := .bool true) rfl (by kernel_rfl) (by kernel_rfl) (by kernel_rfl) (fun _ _ _ h => h) (Or.inl ⟨by rfl, ?_⟩) hHeld ?_
    · intro w' hSw; go_simp
    try simp only [Act.put, List.getElem_toArray, List.getElem_cons_succ, List.getElem_cons_zero, List.setIfInBounds_toArray, List.set_cons_zero, List.set_cons_succ]
    refine wpAnyH_take (i := 16) (v := .bool true) rfl (by kernel_rfl) (by kernel_rfl) (by kernel_rfl) (fun _ _ _ h => h) (Or.inl ⟨by rfl, ?_⟩) hHeld ?_
    · intro w' hSw; go_simp
    try simp only [Act.put, List.getElem_toArray, List.getElem_cons_succ, List.getElem_cons_zero, List.setIfInBounds_toArray, List.set_cons_zero, List.set_cons_succ]
    refine wpAnyH_take (i := 17) (v := .bool true) rfl (by kernel_rfl) (by kernel_rfl) (by kernel_rfl) (fun _ _ _ h => h) (Or.inl ⟨by rfl, ?_⟩) hHeld ?_
    · intro w' hSw; go_simp
    try simp only [Act.put, List.getElem_toArray, List.getElem_cons_succ, List.getElem_cons_zero, List.setIfInBounds_toArray, List.set_cons_zero, List.set_cons_succ]
    refine wpAnyH_take (i := 18) (v := .pointer (some ⟨db, 0, none⟩)) rfl (by kernel_rfl) (by kernel_rfl) (by kernel_rfl) (fun _ _ _ h => h) (Or.inl ⟨by rfl, ?_⟩) hHeld ?_
    · intro w' hSw; go_simp
    try simp only [Act.put, List.getElem_toArray, List.getElem_cons_succ, List.getElem_cons_zero, List.setIfInBounds_toArray, List.set_cons_zero, List.set_cons_succ]
    refine wpAnyH_ready (rs := [19]) (by kernel_rfl) (by simp) ?_
    refine allCall (f := 10) (args := #[.int .u8 97]) rfl (by kernel_rfl) ?_ ?_ AllReadyH.nil
    · go_simp
    refine of_any 97 wV _ (fun wW hBW hbW => ⟨_, rfl, hHeld.trans (hBW.mono hsV), ?_⟩)
    have hHeld2 := hHeld.trans (hBW.mono hsV)
    have hsW := hHeld2.size
    have HbW := Lib.hid hbW
    have hbWl := hbW.lt
    clear hBW hbW hHeld HbV
    have hHeld := hHeld2
    clear hHeld2
    try simp only [Act.put, List.getElem_toArray, List.getElem_cons_succ, List.getElem_cons_zero, List.setIfInBounds_toArray, List.set_cons_zero, List.set_cons_succ]
    refine wpAnyH_ready (rs := [20]) (by kernel_rfl) (by simp) ?_
    refine allCall (f := 26) (args := #[.pointer (some ⟨db, 0, none⟩), .int .i64 0, .slice (some ⟨wV.heap.size, 0, none⟩) 128 128]) rfl (by kernel_rfl) ?_ ?_ AllReadyH.nil
    · go_simp
    refine reads_any (fun q => w.heap.size ≤ q ∧ q < wC.heap.size) wV.heap.size (wV.heap.size + 1) db nm4 4 100 0 _ _ wW (HDU.out.below hHeld) nm4_calm (by omega) (ofBytes HbW.out) (by omega) _ (fun wY hBY => ⟨_, rfl, hHeld.trans (hBY.mono hsW), ?_⟩)
    rw [nm4_0]
    have hHeld2 := hHeld.trans (hBY.mono hsW)
    have hsY := hHeld2.size
    clear hBY hHeld HbW hby
    have hHeld := hHeld2
    clear hHeld2
    try simp only [Act.put, List.getElem_toArray, List.getElem_cons_succ, List.getElem_cons_zero, List.setIfInBounds_toArray, List.set_cons_zero, List.set_cons_succ]
    refine wpAnyH_take (i := 21) (v := .bool true) rfl (by kernel_rfl) (by kernel_rfl) (by kernel_rfl) (fun _ _ _ h => h) (Or.inl ⟨by rfl, ?_⟩) hHeld ?_
    · intro w' hSw; go_simp
    try simp only [Act.put, List.getElem_toArray, List.getElem_cons_succ, List.getElem_cons_zero, List.setIfInBounds_toArray, List.set_cons_zero, List.set_cons_succ]
    refine wpAnyH_take (i := 22) (v := .bool true) rfl (by kernel_rfl) (by kernel_rfl) (by kernel_rfl) (fun _ _ _ h => h) (Or.inl ⟨by rfl, ?_⟩) hHeld ?_
    · intro w' hSw; go_simp
    try simp only [Act.put, List.getElem_toArray, List.getElem_cons_succ, List.getElem_cons_zero, List.setIfInBounds_toArray, List.set_cons_zero, List.set_cons_succ]
    refine wpAnyH_take (i := 23) (v := .pointer (some ⟨db, 0, none⟩)) rfl (by kernel_rfl) (by kernel_rfl) (by kernel_rfl) (fun _ _ _ h => h) (Or.inl ⟨by rfl, ?_⟩) hHeld ?_
    · intro w' hSw; go_simp
    try simp only [Act.put, List.getElem_toArray, List.getElem_cons_succ, List.getElem_cons_zero, List.setIfInBounds_toArray, List.set_cons_zero, List.set_cons_succ]
    refine wpAnyH_ready (rs := [24]) (by kernel_rfl) (by simp) ?_
    refine allCall (f := 23) (args := #[.pointer (some ⟨db, 0, none⟩), .int .i64 (-1)]) rfl (by kernel_rfl) ?_ ?_ AllReadyH.nil
    · go_simp
    refine Fuse_any (fun q => w.heap.size ≤ q ∧ q < wC.heap.size) db nm4 (-1) wY (HDU.out.below hHeld) _ (fun _ => ⟨_, rfl, hHeld, ?_⟩) (fun e => absurd e (by decide))
    try simp only [Act.put, List.getElem_toArray, List.getElem_cons_succ, List.getElem_cons_zero, List.setIfInBounds_toArray, List.set_cons_zero, List.set_cons_succ]
    refine wpAnyH_take (i := 25) (v := .bool true) rfl (by kernel_rfl) (by kernel_rfl) (by kernel_rfl) (fun _ _ _ h => h) (Or.inl ⟨by rfl, ?_⟩) hHeld ?_
    · intro w' hSw; go_simp
    try simp only [Act.put, List.getElem_toArray, List.getElem_cons_succ, List.getElem_cons_zero, List.setIfInBounds_toArray, List.set_cons_zero, List.set_cons_succ]
    refine wpAnyH_take (i := 26) (v := .bool true) rfl (by kernel_rfl) (by kernel_rfl) (by kernel_rfl) (fun _ _ _ h => h) (Or.inl ⟨by rfl, ?_⟩) hHeld ?_
    · intro w' hSw; go_simp
    try simp only [Act.put, List.getElem_toArray, List.getElem_cons_succ, List.getElem_cons_zero, List.setIfInBounds_toArray, List.set_cons_zero, List.set_cons_succ]
    refine wpAnyH_take (i := 27) (v := .bool true) rfl (by kernel_rfl) (by kernel_rfl) (by kernel_rfl) (fun _ _ _ h => h) (Or.inl ⟨by rfl, ?_⟩) hHeld ?_
    · intro w' hSw; go_simp
    try simp only [Act.put, List.getElem_toArray, List.getElem_cons_succ, List.getElem_cons_zero, List.setIfInBounds_toArray, List.set_cons_zero, List.set_cons_succ]
    refine wpAnyH_take (i := 28) (v := .pointer (some ⟨db, 0, none⟩)) rfl (by kernel_rfl) (by kernel_rfl) (by kernel_rfl) (fun _ _ _ h => h) (Or.inl ⟨by rfl, ?_⟩) hHeld ?_
    · intro w' hSw; go_simp
    try simp only [Act.put, List.getElem_toArray, List.getElem_cons_succ, List.getElem_cons_zero, List.setIfInBounds_toArray, List.set_cons_zero, List.set_cons_succ]
    refine wpAnyH_ready (rs := [29]) (by kernel_rfl) (by simp) ?_
    refine allCall (f := 27) (args := #[.pointer (some ⟨db, 0, none⟩)]) rfl (by kernel_rfl) ?_ ?_ AllReadyH.nil
    · go_simp
    refine Len_any (fun q => w.heap.size ≤ q ∧ q < wC.heap.size) db nm4 wY (HDU.out.below hHeld) _ ⟨_, rfl, hHeld, ?_⟩
    rw [show nm4.safe.length = 4 by kernel_rfl]
    try simp only [Act.put, List.getElem_toArray, List.getElem_cons_succ, List.getElem_cons_zero, List.setIfInBounds_toArray, List.set_cons_zero, List.set_cons_succ]
    refine wpAnyH_take (i := 30) (v := .bool true) rfl (by kernel_rfl) (by kernel_rfl) (by kernel_rfl) (fun _ _ _ h => h) (Or.inl ⟨by rfl, ?_⟩) hHeld ?_
    · intro w' hSw; go_simp
    try simp only [Act.put, List.getElem_toArray, List.getElem_cons_succ, List.getElem_cons_zero, List.setIfInBounds_toArray, List.set_cons_zero, List.set_cons_succ]
    refine wpAnyH_take (i := 31) (v := .bool true) rfl (by kernel_rfl) (by kernel_rfl) (by kernel_rfl) (fun _ _ _ h => h) (Or.inl ⟨by rfl, ?_⟩) hHeld ?_
    · intro w' hSw; go_simp
    try simp only [Act.put, List.getElem_toArray, List.getElem_cons_succ, List.getElem_cons_zero, List.setIfInBounds_toArray, List.set_cons_zero, List.set_cons_succ]
    refine wpAnyH_take (i := 32) (v := .bool true) rfl (by kernel_rfl) (by kernel_rfl) (by kernel_rfl) (fun _ _ _ h => h) (Or.inl ⟨by rfl, ?_⟩) hHeld ?_
    · intro w' hSw; go_simp
    try simp only [Act.put, List.getElem_toArray, List.getElem_cons_succ, List.getElem_cons_zero, List.setIfInBounds_toArray, List.set_cons_zero, List.set_cons_succ]
    refine wpAnyH_done (by kernel_rfl) ?_ _
    have HBY := Lib.hid (HBU.out.trans (hHeld.mono (by omega)))
    clear hHeld HDU HBU HoU
    go_wp2_with fail
    refine New_no 0 (by omega) wY _ ?_
    go_wp2_with fail
    refine New_no 65537 (by omega) wY _ ?_
    go_wp2_with fail
    have hBZ : Below wY.heap.size wY (wY.alloc (.cells #[.slice none 0 0, .slice none 0 0, .int .i64 0, .bool false, .int .i64 0] 67)) := (Below.refl _ _).alloc (Nat.le_refl _) _
    have hz : NoDisk (wY.alloc (.cells #[.slice none 0 0, .slice none 0 0, .int .i64 0, .bool false, .int .i64 0] 67)) (.pointer (some ⟨wY.heap.size, 0, none⟩)) :=
      .inr ⟨_, rfl, (Blk.new wY [.slice none 0 0, .slice none 0 0, .int .i64 0, .bool false, .int .i64 0] 67 rfl).cells.c5.1⟩
    have HBZ := Lib.hid (HBY.out.trans (hBZ.mono (by omega)))
    have Hz := Lib.hid hz
    have hsZ := hBZ.size
    clear hBZ hz HBY
    generalize wY.alloc (.cells #[.slice none 0 0, .slice none 0 0, .int .i64 0, .bool false, .int .i64 0] 67) = wZ at *
    refine Read_no _ 0 wZ (.inl rfl) _ ?_
    go_wp2_with fail
    refine Safe_no _ 0 wZ Hz.out _ ?_
    go_wp2_with fail
    refine Write_no _ 0 _ wZ Hz.out _ ?_
    go_wp2_with fail
    refine Flush_no _ wZ (.inl rfl) rfl _ (fun xa hBa => ?_)
    have hsa := hBa.size
    have HBa := Lib.hid (HBZ.out.trans (hBa.mono (by omega)))
    have Hza := Lib.hid (Hz.out.below hBa)
    clear hBa HBZ Hz
    go_wp2_with fail
    refine Fuse_no _ (-1) xa (.inl rfl) _ ?_
    go_wp2_with fail
    refine Pull_no _ xa Hza.out _ ?_
    go_wp2_with fail
    refine Up_no _ _ _ _ xa (.inl rfl) _ (fun xb hBb => ?_)
    have hsb := hBb.size
    have HBb := Lib.hid (HBa.out.trans (hBb.mono (by omega)))
    have Hzb := Lib.hid (Hza.out.below hBb)
    clear hBb HBa Hza
    go_wp2_with fail
    refine Down_no _ xb (.inl rfl) _ ?_
    go_wp2_with fail
    refine Ops_no _ xb Hzb.out _ ?_
    go_wp2_with fail
    refine Len_no _ xb (.inl rfl) _ ?_
    go_wp2_with fail
    refine Dirty_no _ xb (.inl rfl) _ ?_
    go_wp2_with fail
    refine Copy_no _ xb (.inl rfl) _ ?_
    go_wp2_with fail
    refine alive_any xb _ (fun xc hBc => ?_)
    have hr := HR.out xc (HBb.out.trans (hBc.mono (by omega)))
    clear hBc HBb Hzb HR
    go_wp2_with fail
    all_goals first | exact hr | exact fin hr rfl
  refine allVal (v := .slice (some ⟨w1.drew.heap.size, 0, none⟩) 127 127) (w' := w1.drew.alloc (.cells ((List.replicate 127 (0 : UInt8)).flatMap bE).toArray 5)) rfl (by kernel_rfl) ?_ trivial ?_ AllReadyH.nil
  · have hmk : (Instr.makeSlice 30 (.int .i64 127) (.int .i64 127)).run Try.prog w1.drew = .ok (.slice (some ⟨w1.drew.heap.size, 0, none⟩) 127 127) (w1.drew.alloc (.cells ((List.replicate 127 (0 : UInt8)).flatMap bE).toArray 5)) := run_mk 127 (by omega) w1.drew
    go_simp
  have hBn : Below w1.drew.heap.size w1.drew (w1.drew.alloc (.cells ((List.replicate 127 (0 : UInt8)).flatMap bE).toArray 5)) := (Below.refl _ _).alloc (Nat.le_refl _) _
  have hmn : Blk (w1.drew.alloc (.cells ((List.replicate 127 (0 : UInt8)).flatMap bE).toArray 5)) w1.drew.heap.size ((List.replicate 127 (0 : UInt8)).flatMap bE) 5 := Blk.new _ _ _ rfl
  have hsv130 := hBn.size
  have HDv13 := Lib.hid (HDd.out.below hBn)
  have HBv13 := Lib.hid (HBd.out.trans (hBn.mono (by omega)))
  have Hm := Lib.hid hmn
  have hmlt := hmn.lt
  have hm1 : w1.heap.size ≤ w1.drew.heap.size := hsd
  obtain ⟨bm, hbm⟩ : ∃ bm, bm = w1.drew.heap.size := ⟨_, rfl⟩
  rw [← hbm] at Hm hm1 hmlt
  rw [← hbm]
  clear hBn hmn
  generalize w1.drew.alloc (.cells ((List.replicate 127 (0 : UInt8)).flatMap bE).toArray 5) = v13 at *
  clear hbm
  have hsv13 : w1.heap.size ≤ v13.heap.size := by omega
  try simp only [Act.put, List.getElem_toArray, List.getElem_cons_succ, List.getElem_cons_zero, List.setIfInBounds_toArray, List.set_cons_zero, List.set_cons_succ]
  refine wpAnyH_ready (rs := [2]) (by kernel_rfl) (by simp) ?_
  refine allCall (f := 16) (args := #[.pointer (some ⟨db, 0, none⟩), .agg #[.slice none 0 0, .int .i64 0, .int .i64 0]]) rfl (by kernel_rfl) ?_ ?_ AllReadyH.nil
  · go_simp
  refine Up_any (fun k => w.heap.size ≤ k ∧ k < w1.heap.size) 0 0 db (Dk.fresh 4) _ [] 0 0 v13 HDv13.out (fun q hq => by have := hq.2; omega) (nilBytes _) (Nat.zero_le _) (fun q _ => .inr (Nat.zero_le _)) (fun l hl => by rw [(List.mem_replicate.1 hl).2]; simp) _ (fun _ v14 hOn hDn => ⟨_, rfl, trivial, ?_⟩) (fun e => absurd e (by decide))
  have hsn0 := hOn.size
  have HDv14 := Lib.hid hDn
  have HBv14 := Lib.hid (HBv13.out.trans (hOn.below (B := w.heap.size) (by omega) (fun q e => e.1)))
  have hsv14 : w1.heap.size ≤ v14.heap.size := by omega
  have Hm := Lib.hid (hOn.blk Hm.out (fun e => by have := e.2; omega))
  clear hOn hDn
  try simp only [Act.put, List.getElem_toArray, List.getElem_cons_succ, List.getElem_cons_zero, List.setIfInBounds_toArray, List.set_cons_zero, List.set_cons_succ]
  refine wpAnyH_ready (rs := [4]) (by kernel_rfl) (by simp) ?_
  refine allCall (f := 10) (args := #[.int .u8 97]) rfl (by kernel_rfl) ?_ ?_ AllReadyH.nil
  · go_simp
  refine of_any 97 v14 _ (fun v15 hBn hbn => ⟨_, rfl, trivial, ?_⟩)
  have hsn0 := hBn.size
  have HDv15 := Lib.hid (HDv14.out.below hBn)
  have HBv15 := Lib.hid (HBv14.out.trans (hBn.mono (by omega)))
  have hsv15 : w1.heap.size ≤ v15.heap.size := by omega
  have Hb := Lib.hid hbn
  have hblt := hbn.lt
  have hb1 : w1.heap.size ≤ v14.heap.size := hsv14
  have Hm := Lib.hid (Hm.out.below hBn (by omega))
  clear hBn hbn
  obtain ⟨bb, hbb⟩ : ∃ bb, bb = v14.heap.size := ⟨_, rfl⟩
  rw [← hbb] at Hb hb1 hblt
  rw [← hbb]
  clear hbb
  try simp only [Act.put, List.getElem_toArray, List.getElem_cons_succ, List.getElem_cons_zero, List.setIfInBounds_toArray, List.set_cons_zero, List.set_cons_succ]
  refine wpAnyH_ready (rs := [5]) (by kernel_rfl) (by simp) ?_
  refine allCall (f := 13) (args := #[.pointer (some ⟨db, 0, none⟩), .int .i64 4, .slice (some ⟨bb, 0, none⟩) 128 128]) rfl (by kernel_rfl) ?_ ?_ AllReadyH.nil
  · go_simp
  refine Write_any (fun k => w.heap.size ≤ k ∧ k < w1.heap.size) bb (bb + 1) db (Dk.fresh 4) 4 _ aS v15 HDv15.out (ofBytes Hb.out) Hb.out.lt (fun q hq => by have := hq.2; omega) (by decide) (by decide) (fun l hl => by rw [(List.mem_replicate.1 hl).2]; simp) _ (fun _ => ⟨_, rfl, trivial, ?_⟩) (fun e => absurd e (by decide)) (fun e => absurd e (by decide)) (fun e => absurd e (by decide))
  rw [show upE (Dk.fresh 4).safe.length (Dk.fresh 4).down 4 = 211 by decide]
  try simp only [Act.put, List.getElem_toArray, List.getElem_cons_succ, List.getElem_cons_zero, List.setIfInBounds_toArray, List.set_cons_zero, List.set_cons_succ]
  refine wpAnyH_ready (rs := [8]) (by kernel_rfl) (by simp) ?_
  refine allCall (f := 13) (args := #[.pointer (some ⟨db, 0, none⟩), .int .i64 0, .slice (some ⟨bm, 0, none⟩) 127 127]) rfl (by kernel_rfl) ?_ ?_ AllReadyH.nil
  · go_simp
  refine Write_any (fun k => w.heap.size ≤ k ∧ k < w1.heap.size) bm (bm + 1) db (Dk.fresh 4) 0 _ (List.replicate 127 0) v15 HDv15.out (Bytes.ofCells (c := 127) (l := List.replicate 127 0) Hm.out.cells (Nat.le_refl _) (Nat.lt_succ_self _) (by simp) (by decide)) Hm.out.lt (fun q hq => by have := hq.2; omega) (by decide) (by decide) (fun l hl => by rw [(List.mem_replicate.1 hl).2]; simp) _ (fun e => absurd (by decide : upE (Dk.fresh 4).safe.length (Dk.fresh 4).down 0 = 0) e) (fun _ _ => ⟨_, rfl, trivial, ?_⟩) (fun _ e => absurd e (by simp)) (fun _ e => absurd e (by simp))
  try simp only [Act.put, List.getElem_toArray, List.getElem_cons_succ, List.getElem_cons_zero, List.setIfInBounds_toArray, List.set_cons_zero, List.set_cons_succ]
  refine wpAnyH_take (i := 9) (v := .int .i64 2) rfl (by kernel_rfl) (by kernel_rfl) (by kernel_rfl) (fun _ _ _ h => h) (Or.inl ⟨by rfl, ?_⟩) trivial ?_
  · intro w' hSw; go_simp
  try simp only [Act.put, List.getElem_toArray, List.getElem_cons_succ, List.getElem_cons_zero, List.setIfInBounds_toArray, List.set_cons_zero, List.set_cons_succ]
  refine wpAnyH_take (i := 10) (v := .int .i64 211) rfl (by kernel_rfl) (by kernel_rfl) (by kernel_rfl) (fun _ _ _ h => h) (Or.inl ⟨by rfl, ?_⟩) trivial ?_
  · intro w' hSw; go_simp
  try simp only [Act.put, List.getElem_toArray, List.getElem_cons_succ, List.getElem_cons_zero, List.setIfInBounds_toArray, List.set_cons_zero, List.set_cons_succ]
  refine wpAnyH_take (i := 11) (v := .int .i64 2) rfl (by kernel_rfl) (by kernel_rfl) (by kernel_rfl) (fun _ _ _ h => h) (Or.inl ⟨by rfl, ?_⟩) trivial ?_
  · intro w' hSw; go_simp
  try simp only [Act.put, List.getElem_toArray, List.getElem_cons_succ, List.getElem_cons_zero, List.setIfInBounds_toArray, List.set_cons_zero, List.set_cons_succ]
  refine wpAnyH_done (by kernel_rfl) ?_ _
  clear Hm
  go_wp2_with fail
  refine Fuse_any (fun q => w.heap.size ≤ q ∧ q < w1.heap.size) db _ 1 v15 HDv15.out _ (fun e => absurd e (by decide)) (fun _ wA hOA hsA hDA => ?_)
  have HDA : Hid (DkAt wA (fun q => w.heap.size ≤ q ∧ q < w1.heap.size) db nm1) := Lib.hid hDA
  have HBA := Lib.hid (HBv15.out.trans (hOA.below (B := w.heap.size) (by omega) (fun q e => by omega)))
  clear hOA hDA HDv15 HBv15
  have hsA' : w1.heap.size ≤ wA.heap.size := by omega
  clear hsA
  go_wp2_with fail
  refine of_any 97 wA _ (fun wB hBB hbB => ?_)
  have hsB := hBB.size
  have hbBl := hbB.lt
  have HDB := Lib.hid (HDA.out.below hBB)
  have HBB := Lib.hid (HBA.out.trans (hBB.mono (by omega)))
  have HbB := Lib.hid hbB
  clear hBB hbB HDA HBA
  go_wp2_with fail
  refine Write_any (fun q => w.heap.size ≤ q ∧ q < w1.heap.size) _ (_ + 1) db nm1 0 _ aS wB HDB.out (ofBytes HbB.out) hbBl (fun q hq => by have := hq.2; omega) (by decide) (by decide) (fun l hl => by rw [(List.mem_replicate.1 hl).2]; simp) _ (fun e => absurd (by decide : upE nm1.safe.length nm1.down 0 = 0) e) (fun _ e => absurd (by simp [aS] : aS.length = 128) e) (fun _ _ e => absurd e (by decide)) (fun _ _ _ wC hOC hDC => ?_)
  have hsC := hOC.size
  have HDC : Hid (DkAt wC (fun q => w.heap.size ≤ q ∧ q < wC.heap.size) db nm2) := Lib.hid (hDC.mono (fun q hq => by omega))
  have HBC := Lib.hid (HBB.out.trans (hOC.below (B := w.heap.size) (by omega) (fun q e => e.1)))
  clear hOC hDC HDB HBB HbB
  go_wp2_with fail
  refine of_any 98 wC _ (fun wD hBD hbD => ?_)
  have hsD := hBD.size
  have hbDl := hbD.lt
  have HDD := Lib.hid (HDC.out.below hBD)
  have HBD := Lib.hid (HBC.out.trans (hBD.mono (by omega)))
  have HbD := Lib.hid hbD
  clear hBD hbD HDC HBC
  go_wp2_with fail
  refine Write_any (fun q => w.heap.size ≤ q ∧ q < wC.heap.size) _ (_ + 1) db nm2 0 _ bS wD HDD.out (ofBytes HbD.out) hbDl (fun q hq => by have := hq.2; omega) (by decide) (by decide) nm2_few _ (fun e => absurd (by decide : upE nm2.safe.length nm2.down 0 = 0) e) (fun _ e => absurd (by simp [bS] : bS.length = 128) e) (fun _ _ _ wE hOE hsE hDE => ?_) (fun _ _ e => absurd (by decide : nm2.fuse = 0) e)
  have hsE' : wD.heap.size ≤ wE.heap.size := by omega
  clear hsE
  have HDE : Hid (DkAt wE (fun q => w.heap.size ≤ q ∧ q < wC.heap.size) db nm3) := Lib.hid hDE
  have HBE := Lib.hid (HBD.out.trans (hOE.below (B := w.heap.size) (by omega) (fun q e => e.1)))
  clear hOE hDE HDD HBD HbD
  go_wp2_with fail
  refine Flush_any (fun q => w.heap.size ≤ q ∧ q < wC.heap.size) db nm3 wE HDE.out (fun q hq => by have := hq.2; omega) (by decide) (by decide) _ (fun _ wF hOF hDF => ?_) (fun e => absurd e (by decide)) (fun e => absurd e (by decide))
  have hsF := hOF.size
  have HDF := Lib.hid hDF
  have HBF := Lib.hid (HBE.out.trans (hOF.below (B := w.heap.size) (by omega) (fun q e => e.1)))
  clear hOF hDF HDE HBE
  go_wp2_with fail
  refine Read_any (fun q => w.heap.size ≤ q ∧ q < wC.heap.size) wF.heap.size db nm3 0 wF (Nat.le_refl _) HDF.out _ (fun _ => ?_) (fun _ _ e => absurd e (by decide))
  rw [show upE nm3.safe.length nm3.down 0 = 210 by decide]
  go_wp2_with fail
  refine Down_any (fun q => w.heap.size ≤ q ∧ q < wC.heap.size) db nm3 wF HDF.out _ ?_
  rw [show nm3.down = true from rfl]
  go_wp2_with fail
  refine Ops_any (fun q => w.heap.size ≤ q ∧ q < wC.heap.size) db nm3 wF HDF.out _ ?_
  rw [show nm3.ops = 1 from rfl]
  go_wp2_with fail
  refine Safe_any (fun q => w.heap.size ≤ q ∧ q < wC.heap.size) wF.heap.size db nm3 0 wF (Nat.le_refl _) HDF.out _ (fun e => absurd (by decide : safeE nm3.safe.length 0 = 0) e) (fun wG vG _ hBG hoG => ?_)
  have hsG := hBG.size
  have HDG := Lib.hid (HDF.out.below hBG)
  have HBG := Lib.hid (HBF.out.trans (hBG.mono (by omega)))
  have HoG : Hid (OwnB wF.heap.size wG vG (List.replicate 128 0)) := Lib.hid hoG
  clear hBG hoG HDF HBF
  go_wp2_with fail
  refine Safe_any (fun q => w.heap.size ≤ q ∧ q < wC.heap.size) wG.heap.size db nm3 (-1) wG (Nat.le_refl _) HDG.out _ (fun _ => ?_) (fun _ _ e => absurd e (by decide))
  go_wp2_with fail
  have hBH : Below wG.heap.size wG (wG.alloc (.cells #[.int .u8 9] 5)) := (Below.refl _ _).alloc (Nat.le_refl _) _
  have hkp : Bytes wG.heap.size (wG.heap.size + 1) (wG.alloc (.cells #[.int .u8 9] 5)) (.slice (some ⟨wG.heap.size, 0, none⟩) 1 1) [9] :=
    Bytes.ofCells (c := 1) (l := [9]) (CellsAt.newAt wG [.int .u8 9] 5 rfl) (Nat.le_refl _) (Nat.lt_succ_self _) (by decide) (by decide)
  have hsH : (wG.alloc (.cells #[.int .u8 9] 5)).heap.size = wG.heap.size + 1 := by simp
  have HDH := Lib.hid (HDG.out.below hBH)
  have HBH := Lib.hid (HBG.out.trans (hBH.mono (by omega)))
  have HoH := Lib.hid (Own.kept HoG.out hBH)
  have Hkp := Lib.hid hkp
  clear hBH hkp HDG HBG HoG
  generalize wG.alloc (.cells #[.int .u8 9] 5) = wH at *
  refine Up_any (fun q => w.heap.size ≤ q ∧ q < wC.heap.size) wG.heap.size (wG.heap.size + 1) db nm3 _ [9] (-1) 0 wH HDH.out (fun q hq => by have := hq.2; omega) Hkp.out (by omega) (fun q hq => by have := hq.2; omega) nm2_few _ (fun e => absurd e (by decide)) (fun _ wU hOU hDU => ?_)
  have hsU := hOU.size
  have HDU : Hid (DkAt wU (fun q => w.heap.size ≤ q ∧ q < wC.heap.size) db nm4) := Lib.hid hDU
  have HBU := Lib.hid (HBH.out.trans (hOU.below (B := w.heap.size) (by omega) (fun q e => e.1)))
  have HoU := Lib.hid (Own.same HoH.out (fun g hg => hOU.block g (Own.lt HoH.out g hg).2 (fun e => by have := (Own.lt HoH.out g hg).1; have := e.2; omega)))
  clear hOU hDU HDH HBH HoH Hkp
  go_wp2_with fail
  have hby : ∀ w', Below wU.heap.size wU w' → (convert 30 9 vG).run Try.prog w' = .ok (.string ⟨(List.replicate 128 (0 : UInt8)).toArray⟩) w' := fun w' hB => str (OwnB.bytes (Own.kept HoU.out hB))
  refine wp_region_held_drew (S := fun w' => Below wU.heap.size wU w') (by kernel_rfl) (drewN (Below.refl _ _) 1) (fun hHeld => ?_)
  refine wpAnyH_take (i := 0) (v := .int .i64 0) rfl (by kernel_rfl) (by kernel_rfl) (by kernel_rfl) (fun _ _ _ h => h) (Or.inl ⟨by rfl, ?_⟩) hHeld ?_
  · intro w' hSw; go_simp
  try simp only [Act.put, List.getElem_toArray, List.getElem_cons_succ, List.getElem_cons_zero, List.setIfInBounds_toArray, List.set_cons_zero, List.set_cons_succ]
  refine wpAnyH_take (i := 1) (v := .bool true) rfl (by kernel_rfl) (by kernel_rfl) (by kernel_rfl) (fun _ _ _ h => h) (Or.inl ⟨by rfl, ?_⟩) hHeld ?_
  · intro w' hSw; go_simp
  try simp only [Act.put, List.getElem_toArray, List.getElem_cons_succ, List.getElem_cons_zero, List.setIfInBounds_toArray, List.set_cons_zero, List.set_cons_succ]
  refine wpAnyH_take (i := 2) (v := .bool true) rfl (by kernel_rfl) (by kernel_rfl) (by kernel_rfl) (fun _ _ _ h => h) (Or.inl ⟨by rfl, ?_⟩) hHeld ?_
  · intro w' hSw; go_simp
  try simp only [Act.put, List.getElem_toArray, List.getElem_cons_succ, List.getElem_cons_zero, List.setIfInBounds_toArray, List.set_cons_zero, List.set_cons_succ]
  refine wpAnyH_take (i := 3) (v := vG) rfl (by kernel_rfl) (by kernel_rfl) (by kernel_rfl) (fun _ _ _ h => h) (Or.inl ⟨by rfl, ?_⟩) hHeld ?_
  · intro w' hSw; go_simp
  try simp only [Act.put, List.getElem_toArray, List.getElem_cons_succ, List.getElem_cons_zero, List.setIfInBounds_toArray, List.set_cons_zero, List.set_cons_succ]
  refine wpAnyH_take (i := 4) (v := .string ⟨(List.replicate 128 (0 : UInt8)).toArray⟩) rfl (by kernel_rfl) (by kernel_rfl) (by kernel_rfl) (fun _ _ _ h => h) (Or.inl ⟨by rfl, ?_⟩) hHeld ?_
  · intro w' hSw; have hcc := hby w' hSw; go_simp
  try simp only [Act.put, List.getElem_toArray, List.getElem_cons_succ, List.getElem_cons_zero, List.setIfInBounds_toArray, List.set_cons_zero, List.set_cons_succ]
  refine wpAnyH_ready (rs := [5]) (by kernel_rfl) (by simp) ?_
  refine allCall (f := 10) (args := #[.int .u8 0]) rfl (by kernel_rfl) ?_ ?_ AllReadyH.nil
  · go_simp
  refine of_any 0 wU.drew _ (fun wV hBV hbV => ⟨_, rfl, hHeld.trans hBV, ?_⟩)
  have hHeld2 := hHeld.trans hBV
  have hsV := hHeld2.size
  have HbV : Hid (Blk wV wU.heap.size ((List.replicate 128 (0 : UInt8)).flatMap bE) 5) := Lib.hid hbV
  clear hBV hbV hHeld
  have hHeld := hHeld2
  clear hHeld2
  try simp only [Act.put, List.getElem_toArray, List.getElem_cons_succ, List.getElem_cons_zero, List.setIfInBounds_toArray, List.set_cons_zero, List.set_cons_succ]
  refine wpAnyH_ready (rs := [6]) (by kernel_rfl) (by simp) ?_
  refine allVal (v := .string ⟨(List.replicate 128 (0 : UInt8)).toArray⟩) (w' := wV) rfl (by kernel_rfl) ?_ hHeld ?_ AllReadyH.nil
  · have hcc := str (ofBytes HbV.out)
    go_simp
  try simp only [Act.put, List.getElem_toArray, List.getElem_cons_succ, List.getElem_cons_zero, List.setIfInBounds_toArray, List.set_cons_zero, List.set_cons_succ]
  refine wpAnyH_take (i := 7) (v := .bool true) rfl (by kernel_rfl) (by kernel_rfl) (by kernel_rfl) (fun _ _ _ h => h) (Or.inl ⟨by rfl, ?_⟩) hHeld ?_
  · intro w' hSw; go_simp
  try simp only [Act.put, List.getElem_toArray, List.getElem_cons_succ, List.getElem_cons_zero, List.setIfInBounds_toArray, List.set_cons_zero, List.set_cons_succ]
  refine wpAnyH_take (i := 8) (v := .bool true) rfl (by kernel_rfl) (by kernel_rfl) (by kernel_rfl) (fun _ _ _ h => h) (Or.inl ⟨by rfl, ?_⟩) hHeld ?_
  · intro w' hSw; go_simp
  try simp only [Act.put, List.getElem_toArray, List.getElem_cons_succ, List.getElem_cons_zero, List.setIfInBounds_toArray, List.set_cons_zero, List.set_cons_succ]
  refine wpAnyH_take (i := 9) (v := .bool true) rfl (by kernel_rfl) (by kernel_rfl) (by kernel_rfl) (fun _ _ _ h => h) (Or.inl ⟨by rfl, ?_⟩) hHeld ?_
  · intro w' hSw; go_simp
  try simp only [Act.put, List.getElem_toArray, List.getElem_cons_succ, List.getElem_cons_zero, List.setIfInBounds_toArray, List.set_cons_zero, List.set_cons_succ]
  refine wpAnyH_take (i := 10) (v := .int .i64 211) rfl (by kernel_rfl) (by kernel_rfl) (by kernel_rfl) (fun _ _ _ h => h) (Or.inl ⟨by rfl, ?_⟩) hHeld ?_
  · intro w' hSw; go_simp
  try simp only [Act.put, List.getElem_toArray, List.getElem_cons_succ, List.getElem_cons_zero, List.setIfInBounds_toArray, List.set_cons_zero, List.set_cons_succ]
  refine wpAnyH_take (i := 11) (v := .bool true) rfl (by kernel_rfl) (by kernel_rfl) (by kernel_rfl) (fun _ _ _ h => h) (Or.inl ⟨by rfl, ?_⟩) hHeld ?_
  · intro w' hSw; go_simp
  try simp only [Act.put, List.getElem_toArray, List.getElem_cons_succ, List.getElem_cons_zero, List.setIfInBounds_toArray, List.set_cons_zero, List.set_cons_succ]
  refine wpAnyH_take (i := 12) (v := .bool true) rfl (by kernel_rfl) (by kernel_rfl) (by kernel_rfl) (fun _ _ _ h => h) (Or.inl ⟨by rfl, ?_⟩) hHeld ?_
  · intro w' hSw; go_simp
  try simp only [Act.put, List.getElem_toArray, List.getElem_cons_succ, List.getElem_cons_zero, List.setIfInBounds_toArray, List.set_cons_zero, List.set_cons_succ]
  refine wpAnyH_take (i := 13) (v := .bool true) rfl (by kernel_rfl) (by kernel_rfl) (by kernel_rfl) (fun _ _ _ h => h) (Or.inl ⟨by rfl, ?_⟩) hHeld ?_
  · intro w' hSw; go_simp
  try simp only [Act.put, List.getElem_toArray, List.getElem_cons_succ, List.getElem_cons_zero, List.setIfInBounds_toArray, List.set_cons_zero, List.set_cons_succ]
  refine wpAnyH_take (i := 14) (v := .int .i64 0) rfl (by kernel_rfl) (by kernel_rfl) (by kernel_rfl) (fun _ _ _ h => h) (Or.inl ⟨by rfl, ?_⟩) hHeld ?_
  · intro w' hSw; go_simp
  try simp only [Act.put, List.getElem_toArray, List.getElem_cons_succ, List.getElem_cons_zero, List.setIfInBounds_toArray, List.set_cons_zero, List.set_cons_succ]
  refine wpAnyH_take (i := 15) (v := .bool true) rfl (by kernel_rfl) (by kernel_rfl) (by kernel_rfl) (fun _ _ _ h => h) (Or.inl ⟨by rfl, ?_⟩) hHeld ?_
  · intro w' hSw; go_simp
  try simp only [Act.put, List.getElem_toArray, List.getElem_cons_succ, List.getElem_cons_zero, List.setIfInBounds_toArray, List.set_cons_zero, List.set_cons_succ]
  refine wpAnyH_take (i := 16) (v := .bool true) rfl (by kernel_rfl) (by kernel_rfl) (by kernel_rfl) (fun _ _ _ h => h) (Or.inl ⟨by rfl, ?_⟩) hHeld ?_
  · intro w' hSw; go_simp
  try simp only [Act.put, List.getElem_toArray, List.getElem_cons_succ, List.getElem_cons_zero, List.setIfInBounds_toArray, List.set_cons_zero, List.set_cons_succ]
  refine wpAnyH_take (i := 17) (v := .bool true) rfl (by kernel_rfl) (by kernel_rfl) (by kernel_rfl) (fun _ _ _ h => h) (Or.inl ⟨by rfl, ?_⟩) hHeld ?_
  · intro w' hSw; go_simp
  try simp only [Act.put, List.getElem_toArray, List.getElem_cons_succ, List.getElem_cons_zero, List.setIfInBounds_toArray, List.set_cons_zero, List.set_cons_succ]
  refine wpAnyH_take (i := 18) (v := .pointer (some ⟨db, 0, none⟩)) rfl (by kernel_rfl) (by kernel_rfl) (by kernel_rfl) (fun _ _ _ h => h) (Or.inl ⟨by rfl, ?_⟩) hHeld ?_
  · intro w' hSw; go_simp
  try simp only [Act.put, List.getElem_toArray, List.getElem_cons_succ, List.getElem_cons_zero, List.setIfInBounds_toArray, List.set_cons_zero, List.set_cons_succ]
  refine wpAnyH_ready (rs := [19]) (by kernel_rfl) (by simp) ?_
  refine allCall (f := 10) (args := #[.int .u8 97]) rfl (by kernel_rfl) ?_ ?_ AllReadyH.nil
  · go_simp
  refine of_any 97 wV _ (fun wW hBW hbW => ⟨_, rfl, hHeld.trans (hBW.mono hsV), ?_⟩)
  have hHeld2 := hHeld.trans (hBW.mono hsV)
  have hsW := hHeld2.size
  have HbW := Lib.hid hbW
  have hbWl := hbW.lt
  clear hBW hbW hHeld HbV
  have hHeld := hHeld2
  clear hHeld2
  try simp only [Act.put, List.getElem_toArray, List.getElem_cons_succ, List.getElem_cons_zero, List.setIfInBounds_toArray, List.set_cons_zero, List.set_cons_succ]
  refine wpAnyH_ready (rs := [20]) (by kernel_rfl) (by simp) ?_
  refine allCall (f := 26) (args := #[.pointer (some ⟨db, 0, none⟩), .int .i64 0, .slice (some ⟨wV.heap.size, 0, none⟩) 128 128]) rfl (by kernel_rfl) ?_ ?_ AllReadyH.nil
  · go_simp
  refine reads_any (fun q => w.heap.size ≤ q ∧ q < wC.heap.size) wV.heap.size (wV.heap.size + 1) db nm4 4 100 0 _ _ wW (HDU.out.below hHeld) nm4_calm (by omega) (ofBytes HbW.out) (by omega) _ (fun wY hBY => ⟨_, rfl, hHeld.trans (hBY.mono hsW), ?_⟩)
  rw [nm4_0]
  have hHeld2 := hHeld.trans (hBY.mono hsW)
  have hsY := hHeld2.size
  clear hBY hHeld HbW hby
  have hHeld := hHeld2
  clear hHeld2
  try simp only [Act.put, List.getElem_toArray, List.getElem_cons_succ, List.getElem_cons_zero, List.setIfInBounds_toArray, List.set_cons_zero, List.set_cons_succ]
  refine wpAnyH_take (i := 21) (v := .bool true) rfl (by kernel_rfl) (by kernel_rfl) (by kernel_rfl) (fun _ _ _ h => h) (Or.inl ⟨by rfl, ?_⟩) hHeld ?_
  · intro w' hSw; go_simp
  try simp only [Act.put, List.getElem_toArray, List.getElem_cons_succ, List.getElem_cons_zero, List.setIfInBounds_toArray, List.set_cons_zero, List.set_cons_succ]
  refine wpAnyH_take (i := 22) (v := .bool true) rfl (by kernel_rfl) (by kernel_rfl) (by kernel_rfl) (fun _ _ _ h => h) (Or.inl ⟨by rfl, ?_⟩) hHeld ?_
  · intro w' hSw; go_simp
  try simp only [Act.put, List.getElem_toArray, List.getElem_cons_succ, List.getElem_cons_zero, List.setIfInBounds_toArray, List.set_cons_zero, List.set_cons_succ]
  refine wpAnyH_take (i := 23) (v := .pointer (some ⟨db, 0, none⟩)) rfl (by kernel_rfl) (by kernel_rfl) (by kernel_rfl) (fun _ _ _ h => h) (Or.inl ⟨by rfl, ?_⟩) hHeld ?_
  · intro w' hSw; go_simp
  try simp only [Act.put, List.getElem_toArray, List.getElem_cons_succ, List.getElem_cons_zero, List.setIfInBounds_toArray, List.set_cons_zero, List.set_cons_succ]
  refine wpAnyH_ready (rs := [24]) (by kernel_rfl) (by simp) ?_
  refine allCall (f := 23) (args := #[.pointer (some ⟨db, 0, none⟩), .int .i64 (-1)]) rfl (by kernel_rfl) ?_ ?_ AllReadyH.nil
  · go_simp
  refine Fuse_any (fun q => w.heap.size ≤ q ∧ q < wC.heap.size) db nm4 (-1) wY (HDU.out.below hHeld) _ (fun _ => ⟨_, rfl, hHeld, ?_⟩) (fun e => absurd e (by decide))
  try simp only [Act.put, List.getElem_toArray, List.getElem_cons_succ, List.getElem_cons_zero, List.setIfInBounds_toArray, List.set_cons_zero, List.set_cons_succ]
  refine wpAnyH_take (i := 25) (v := .bool true) rfl (by kernel_rfl) (by kernel_rfl) (by kernel_rfl) (fun _ _ _ h => h) (Or.inl ⟨by rfl, ?_⟩) hHeld ?_
  · intro w' hSw; go_simp
  try simp only [Act.put, List.getElem_toArray, List.getElem_cons_succ, List.getElem_cons_zero, List.setIfInBounds_toArray, List.set_cons_zero, List.set_cons_succ]
  refine wpAnyH_take (i := 26) (v := .bool true) rfl (by kernel_rfl) (by kernel_rfl) (by kernel_rfl) (fun _ _ _ h => h) (Or.inl ⟨by rfl, ?_⟩) hHeld ?_
  · intro w' hSw; go_simp
  try simp only [Act.put, List.getElem_toArray, List.getElem_cons_succ, List.getElem_cons_zero, List.setIfInBounds_toArray, List.set_cons_zero, List.set_cons_succ]
  refine wpAnyH_take (i := 27) (v := .bool true) rfl (by kernel_rfl) (by kernel_rfl) (by kernel_rfl) (fun _ _ _ h => h) (Or.inl ⟨by rfl, ?_⟩) hHeld ?_
  · intro w' hSw; go_simp
  try simp only [Act.put, List.getElem_toArray, List.getElem_cons_succ, List.getElem_cons_zero, List.setIfInBounds_toArray, List.set_cons_zero, List.set_cons_succ]
  refine wpAnyH_take (i := 28) (v := .pointer (some ⟨db, 0, none⟩)) rfl (by kernel_rfl) (by kernel_rfl) (by kernel_rfl) (fun _ _ _ h => h) (Or.inl ⟨by rfl, ?_⟩) hHeld ?_
  · intro w' hSw; go_simp
  try simp only [Act.put, List.getElem_toArray, List.getElem_cons_succ, List.getElem_cons_zero, List.setIfInBounds_toArray, List.set_cons_zero, List.set_cons_succ]
  refine wpAnyH_ready (rs := [29]) (by kernel_rfl) (by simp) ?_
  refine allCall (f := 27) (args := #[.pointer (some ⟨db, 0, none⟩)]) rfl (by kernel_rfl) ?_ ?_ AllReadyH.nil
  · go_simp
  refine Len_any (fun q => w.heap.size ≤ q ∧ q < wC.heap.size) db nm4 wY (HDU.out.below hHeld) _ ⟨_, rfl, hHeld, ?_⟩
  rw [show nm4.safe.length = 4 by kernel_rfl]
  try simp only [Act.put, List.getElem_toArray, List.getElem_cons_succ, List.getElem_cons_zero, List.setIfInBounds_toArray, List.set_cons_zero, List.set_cons_succ]
  refine wpAnyH_take (i := 30) (v := .bool true) rfl (by kernel_rfl) (by kernel_rfl) (by kernel_rfl) (fun _ _ _ h => h) (Or.inl ⟨by rfl, ?_⟩) hHeld ?_
  · intro w' hSw; go_simp
  try simp only [Act.put, List.getElem_toArray, List.getElem_cons_succ, List.getElem_cons_zero, List.setIfInBounds_toArray, List.set_cons_zero, List.set_cons_succ]
  refine wpAnyH_take (i := 31) (v := .bool true) rfl (by kernel_rfl) (by kernel_rfl) (by kernel_rfl) (fun _ _ _ h => h) (Or.inl ⟨by rfl, ?_⟩) hHeld ?_
  · intro w' hSw; go_simp
  try simp only [Act.put, List.getElem_toArray, List.getElem_cons_succ, List.getElem_cons_zero, List.setIfInBounds_toArray, List.set_cons_zero, List.set_cons_succ]
  refine wpAnyH_take (i := 32) (v := .bool true) rfl (by kernel_rfl) (by kernel_rfl) (by kernel_rfl) (fun _ _ _ h => h) (Or.inl ⟨by rfl, ?_⟩) hHeld ?_
  · intro w' hSw; go_simp
  try simp only [Act.put, List.getElem_toArray, List.getElem_cons_succ, List.getElem_cons_zero, List.setIfInBounds_toArray, List.set_cons_zero, List.set_cons_succ]
  refine wpAnyH_done (by kernel_rfl) ?_ _
  have HBY := Lib.hid (HBU.out.trans (hHeld.mono (by omega)))
  clear hHeld HDU HBU HoU
  go_wp2_with fail
  refine New_no 0 (by omega) wY _ ?_
  go_wp2_with fail
  refine New_no 65537 (by omega) wY _ ?_
  go_wp2_with fail
  have hBZ : Below wY.heap.size wY (wY.alloc (.cells #[.slice none 0 0, .slice none 0 0, .int .i64 0, .bool false, .int .i64 0] 67)) := (Below.refl _ _).alloc (Nat.le_refl _) _
  have hz : NoDisk (wY.alloc (.cells #[.slice none 0 0, .slice none 0 0, .int .i64 0, .bool false, .int .i64 0] 67)) (.pointer (some ⟨wY.heap.size, 0, none⟩)) :=
    .inr ⟨_, rfl, (Blk.new wY [.slice none 0 0, .slice none 0 0, .int .i64 0, .bool false, .int .i64 0] 67 rfl).cells.c5.1⟩
  have HBZ := Lib.hid (HBY.out.trans (hBZ.mono (by omega)))
  have Hz := Lib.hid hz
  have hsZ := hBZ.size
  clear hBZ hz HBY
  generalize wY.alloc (.cells #[.slice none 0 0, .slice none 0 0, .int .i64 0, .bool false, .int .i64 0] 67) = wZ at *
  refine Read_no _ 0 wZ (.inl rfl) _ ?_
  go_wp2_with fail
  refine Safe_no _ 0 wZ Hz.out _ ?_
  go_wp2_with fail
  refine Write_no _ 0 _ wZ Hz.out _ ?_
  go_wp2_with fail
  refine Flush_no _ wZ (.inl rfl) rfl _ (fun xa hBa => ?_)
  have hsa := hBa.size
  have HBa := Lib.hid (HBZ.out.trans (hBa.mono (by omega)))
  have Hza := Lib.hid (Hz.out.below hBa)
  clear hBa HBZ Hz
  go_wp2_with fail
  refine Fuse_no _ (-1) xa (.inl rfl) _ ?_
  go_wp2_with fail
  refine Pull_no _ xa Hza.out _ ?_
  go_wp2_with fail
  refine Up_no _ _ _ _ xa (.inl rfl) _ (fun xb hBb => ?_)
  have hsb := hBb.size
  have HBb := Lib.hid (HBa.out.trans (hBb.mono (by omega)))
  have Hzb := Lib.hid (Hza.out.below hBb)
  clear hBb HBa Hza
  go_wp2_with fail
  refine Down_no _ xb (.inl rfl) _ ?_
  go_wp2_with fail
  refine Ops_no _ xb Hzb.out _ ?_
  go_wp2_with fail
  refine Len_no _ xb (.inl rfl) _ ?_
  go_wp2_with fail
  refine Dirty_no _ xb (.inl rfl) _ ?_
  go_wp2_with fail
  refine Copy_no _ xb (.inl rfl) _ ?_
  go_wp2_with fail
  refine alive_any xb _ (fun xc hBc => ?_)
  have hr := HR.out xc (HBb.out.trans (hBc.mono (by omega)))
  clear hBc HBb Hzb HR
  go_wp2_with fail
  all_goals first | exact hr | exact fin hr rfl
end Go.Proofs.Ytfmpafheodpfoaa
