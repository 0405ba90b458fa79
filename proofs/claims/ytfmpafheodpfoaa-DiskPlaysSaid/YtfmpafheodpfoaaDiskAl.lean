/- daybooklaw21.alive. -/
import Derived.Test.YtfmpafheodpfoaaDiskIn
namespace Go.Proofs.Ytfmpafheodpfoaa
open Go.RowKit Go.Shelf
attribute [local go_sem ↓] Go.wp_at_zero Go.wp_at_succ

def aS : List UInt8 := List.replicate 128 97
def bS : List UInt8 := List.replicate 128 98
def cS : List UInt8 := List.replicate 128 99
def al5 : Dk := ((((((Dk.fresh 4).wr 1 aS).fl).wr 1 bS).wr 1 cS).wr 3 aS)
def alP : Dk := ⟨al5.safe, al5.writes, al5.fuse, true, al5.ops⟩
def alU : Dk := ⟨(alP.upTo (fate alP [1, 0] 0 2) alP.safe.length).safe, (alP.upTo (fate alP [1, 0] 0 2) alP.safe.length).writes, -1, false, alP.ops⟩
theorem alU_1 : (alU.last 1 == (98 :: 98 :: List.replicate 126 97)) = true := by kernel_rfl
theorem alU_3 : (alU.last 3 == List.replicate 128 0) = true := by kernel_rfl
theorem al_dirty : dirtyTo al5 al5.safe.length = [1, 3] := by kernel_rfl
theorem alU_calm : Calm alU 4 100 := ⟨by kernel_rfl, by kernel_rfl, rfl, rfl, by decide, fun l hl => by
  have : alU.writes.all (fun l => decide (l.length ≤ 100)) = true := by kernel_rfl
  have := List.all_eq_true.1 this l hl
  simpa using this⟩

abbrev DkL (lo : Nat) (w : World) (db : Nat) (d : Dk) : Prop := DkAt w (fun q => lo ≤ q ∧ q < w.heap.size) db d
theorem WriteL (lo bb db : Nat) (d : Dk) (n k i : Nat) (b : List UInt8) (w : World) (h : DkAt w (fun q => lo ≤ q ∧ q < bb) db d) (hk : Calm d n k) (hkk : k ≤ 100000) (hb : Blk w bb (b.flatMap bE) 5) (hlo : lo ≤ bb) (hl : b.length = 128) (hi : i < n) (R : Ending → World → Prop)
    (hR : ∀ w', Below lo w w' → Only (fun q => lo ≤ q ∧ q < bb) w w' → DkL lo w' db (d.wr i b) → R (.returned (.int .i64 0)) w') :
    Calls Try.prog 13 #[.pointer (some ⟨db, 0, none⟩), .int .i64 i, .slice (some ⟨bb, 0, none⟩) 128 128] w R := by
  have hlt := hb.lt
  refine Write_ok _ bb db d n k i b w h hk hkk (fun q hq => by omega) hb hl hi R (fun w' hO hD => ?_)
  have hs := hO.size
  exact hR w' (hO.below (B := lo) (by omega) (fun q e => e.1)) hO (hD.mono (fun q e => by omega))
theorem FlushL (lo db : Nat) (d : Dk) (n k : Nat) (w : World) (h : DkL lo w db d) (hk : Calm d n k) (hkk : k ≤ 100000) (hlo : lo ≤ w.heap.size) (R : Ending → World → Prop)
    (hR : ∀ w', Below lo w w' → DkL lo w' db d.fl → R (.returned (.int .i64 0)) w') : Calls Try.prog 11 #[.pointer (some ⟨db, 0, none⟩)] w R := by
  refine Flush_ok _ db d n k w h hk hkk (fun q hq => hq.2) R (fun w' hO hD => ?_)
  have hs := hO.size
  exact hR w' (hO.below (B := lo) hlo (fun q e => e.1)) (hD.mono (fun q e => by omega))
theorem DkL.to {lo db : Nat} {w w' : World} {d : Dk} (h : DkL lo w db d) (hB : Below w.heap.size w w') : DkAt w' (fun q => lo ≤ q ∧ q < w.heap.size) db d := h.below hB

set_option maxRecDepth 100000 in
set_option maxHeartbeats 8000000 in
theorem alive_any (w : World) (R : Ending → World → Prop) (hR : ∀ w', Below w.heap.size w w' → R (.returned (.bool true)) w') : Calls Try.prog 7 #[] w R := by
  have HR := Lib.hid hR
  clear hR
  have haS : aS.length = 128 := by simp [aS]
  have hbS : bS.length = 128 := by simp [bS]
  have hcS : cS.length = 128 := by simp [cS]
  have k0 := Calm.fresh 4
  have k1 := k0.wr 1 (by omega) aS
  have k2 := k1.fl
  have k3 := k2.wr 1 (by omega) bS
  have k4 := k3.wr 1 (by omega) cS
  have k5 := k4.wr 3 (by omega) aS
  have K0 := Lib.hid k0
  have K1 := Lib.hid k1
  have K2 := Lib.hid k2
  have K3 := Lib.hid k3
  have K4 := Lib.hid k4
  have K5 := Lib.hid k5
  clear k0 k1 k2 k3 k4 k5
  go_enter Try.func7, Try.ntmps7
  go_wp2_with fail
  refine New_ok 4 (by omega) (by omega) w _ (fun w1 db hB1 hdb1 hdb2 hD1 => ?_)
  have hs1 := hB1.size
  have HD1 := Lib.hid hD1
  have HB1 := Lib.hid hB1
  clear hD1 hB1
  go_wp2_with fail
  refine of_any 97 w1 _ (fun w2 hB2 hb2 => ?_)
  have HD2 := Lib.hid (HD1.out.below hB2)
  have HB2 := Lib.hid (HB1.out.trans (hB2.mono hs1))
  have hs2 := hB2.size
  have Hb2 := Lib.hid hb2
  clear hB2 hb2
  go_wp2_with fail
  refine WriteL w.heap.size w1.heap.size db _ 4 _ 1 aS w2 HD2.out K0.out (by omega) Hb2.out hs1 haS (by omega) _ (fun w3 hB3 _ hD3 => ?_)
  have HD3 := Lib.hid hD3
  have HB3 := Lib.hid (HB2.out.trans hB3)
  have hs3 := hB3.size
  clear hB3 hD3 HD1 HD2 HB1 HB2 Hb2
  go_wp2_with fail
  refine FlushL w.heap.size db _ 4 _ w3 HD3.out K1.out (by omega) (by omega) _ (fun w4 hB4 hD4 => ?_)
  have HD4 := Lib.hid hD4
  have HB4 := Lib.hid (HB3.out.trans hB4)
  have hs4 := hB4.size
  clear hB4 hD4 HD3 HB3
  go_wp2_with fail
  refine of_any 98 w4 _ (fun w5 hB5 hb5 => ?_)
  have HD5 := Lib.hid (DkL.to HD4.out hB5)
  have HB5 := Lib.hid (HB4.out.trans (hB5.mono (by omega)))
  have hs5 := hB5.size
  have Hb5 := Lib.hid hb5
  clear hB5 hb5 HD4 HB4
  go_wp2_with fail
  refine WriteL w.heap.size w4.heap.size db _ 4 _ 1 bS w5 HD5.out K2.out (by omega) Hb5.out (by omega) hbS (by omega) _ (fun w6 hB6 _ hD6 => ?_)
  have HD6 := Lib.hid hD6
  have HB6 := Lib.hid (HB5.out.trans hB6)
  have hs6 := hB6.size
  clear hB6 hD6 HD5 HB5 Hb5
  go_wp2_with fail
  refine of_any 99 w6 _ (fun w7 hB7 hb7 => ?_)
  have HD7 := Lib.hid (DkL.to HD6.out hB7)
  have HB7 := Lib.hid (HB6.out.trans (hB7.mono (by omega)))
  have hs7 := hB7.size
  have Hb7 := Lib.hid hb7
  clear hB7 hb7 HD6 HB6
  go_wp2_with fail
  refine WriteL w.heap.size w6.heap.size db _ 4 _ 1 cS w7 HD7.out K3.out (by omega) Hb7.out (by omega) hcS (by omega) _ (fun w8 hB8 _ hD8 => ?_)
  have HD8 := Lib.hid hD8
  have HB8 := Lib.hid (HB7.out.trans hB8)
  have hs8 := hB8.size
  clear hB8 hD8 HD7 HB7 Hb7
  go_wp2_with fail
  refine of_any 97 w8 _ (fun w9 hB9 hb9 => ?_)
  have HD9 := Lib.hid (DkL.to HD8.out hB9)
  have HB9 := Lib.hid (HB8.out.trans (hB9.mono (by omega)))
  have hs9 := hB9.size
  have Hb9 := Lib.hid hb9
  clear hB9 hb9 HD8 HB8
  go_wp2_with fail
  refine WriteL w.heap.size w8.heap.size db _ 4 _ 3 aS w9 HD9.out K4.out (by omega) Hb9.out (by omega) haS (by omega) _ (fun wa hBa _ hDa => ?_)
  have HDa : Hid (DkL w.heap.size wa db al5) := Lib.hid hDa
  have HBa := Lib.hid (HB9.out.trans hBa)
  have hsa := hBa.size
  clear hBa hDa HD9 HB9 Hb9
  go_wp2_with fail
  refine Dirty_any _ db al5 wa HDa.out _ (fun wb vl hBb hob => ?_)
  rw [al_dirty] at hob
  have HDb := Lib.hid (DkL.to HDa.out hBb)
  have HBb := Lib.hid (HBa.out.trans (hBb.mono (by omega)))
  have hsb := hBb.size
  have Hob := Lib.hid hob
  clear hBb hob HDa HBa
  go_wp2_with fail
  refine Pull_any _ db al5 wb HDb.out _ (fun wc hOc hsc hDc => ?_)
  have HDc : Hid (DkAt wc (fun q => w.heap.size ≤ q ∧ q < wa.heap.size) db alP) := Lib.hid hDc
  have HBc := Lib.hid (HBb.out.trans (hOc.below (B := w.heap.size) (by omega) (fun k e => by omega)))
  have hob1 := OwnI.only Hob.out hOc (fun k e => by omega)
  have Hoc := Lib.hid hob1
  clear hOc hDc HDb HBb Hob hob1
  go_wp2_with fail
  have hBd : Below wc.heap.size wc (wc.alloc (.cells #[.int .u8 1, .int .u8 0] 5)) := (Below.refl _ _).alloc (Nat.le_refl _) _
  have hsd : (wc.alloc (.cells #[.int .u8 1, .int .u8 0] 5)).heap.size = wb.heap.size + 1 := by simp [hsc]
  have hkp : Bytes wb.heap.size (wb.heap.size + 1) (wc.alloc (.cells #[.int .u8 1, .int .u8 0] 5)) (.slice (some ⟨wb.heap.size, 0, none⟩) 2 2) [1, 0] := by
    rw [← hsc]
    exact Bytes.ofCells (c := 2) (l := [1, 0]) (CellsAt.newAt wc [.int .u8 1, .int .u8 0] 5 rfl) (Nat.le_refl _) (Nat.lt_succ_self _) (by decide) (by decide)
  have HDd := Lib.hid (HDc.out.below hBd)
  have HBd := Lib.hid (HBc.out.trans (hBd.mono (by omega)))
  have Hod := Lib.hid (Own.kept Hoc.out hBd)
  have Hkp := Lib.hid hkp
  clear hBd hkp HDc HBc Hoc
  generalize wc.alloc (.cells #[.int .u8 1, .int .u8 0] 5) = wd at *
  refine Up_any (fun q => w.heap.size ≤ q ∧ q < wa.heap.size) wb.heap.size (wb.heap.size + 1) db alP _ [1, 0] 0 2 wd HDd.out (fun q hq => by omega) Hkp.out (by omega) (fun q hq => by omega)
    (fun l hl => by have := K5.out.few l hl; omega) _ (fun e => by simp [alP] at e) (fun _ we hOe hDe => ?_)
  have HDe : Hid (DkAt we (fun q => w.heap.size ≤ q ∧ q < wa.heap.size) db alU) := Lib.hid hDe
  have HBe := Lib.hid (HBd.out.trans (hOe.below (B := w.heap.size) (by omega) (fun k e => e.1)))
  have Hoe := Lib.hid (OwnI.only Hod.out hOe (fun k e => e.2))
  have hse := hOe.size
  clear hOe hDe HDd HBd Hod Hkp K0 K1 K2 K3 K4 K5
  go_wp2_with fail
  refine of_any 97 we _ (fun wf hBf hbf => ?_)
  have hsf := hBf.size
  have hltf := hbf.lt
  have cf0 : wf.cell? ⟨we.heap.size, 0, none⟩ = some (.int .u8 97) := by
    have := hbf.cells 0 (.int .u8 97) rfl
    rwa [Nat.zero_add] at this
  have cf1 : wf.cell? ⟨we.heap.size, 1, none⟩ = some (.int .u8 97) := by
    have := hbf.cells 1 (.int .u8 97) rfl
    rwa [Nat.zero_add] at this
  have ff0 := hbf.free 0
  have ff1 := hbf.free 1
  have hBg : Below we.heap.size we ((wf.setCell ⟨we.heap.size, 0, none⟩ (.int .u8 98)).setCell ⟨we.heap.size, 1, none⟩ (.int .u8 98)) := (hBf.setCell (p := ⟨we.heap.size, 0, none⟩) (Nat.le_refl _) _).setCell (p := ⟨we.heap.size, 1, none⟩) (Nat.le_refl _) _
  have hbg : Blk ((wf.setCell ⟨we.heap.size, 0, none⟩ (.int .u8 98)).setCell ⟨we.heap.size, 1, none⟩ (.int .u8 98)) we.heap.size ((98 :: 98 :: List.replicate 126 97 : List UInt8).flatMap bE) 5 := (hbf.set 0 (.int .u8 98)).set 1 (.int .u8 98)
  have hsg := hBg.size
  have HBg := Lib.hid hBg
  have Hbg := Lib.hid hbg
  clear hBf hbf hBg hbg
  have hsgf : ((wf.setCell ⟨we.heap.size, 0, none⟩ (.int .u8 98)).setCell ⟨we.heap.size, 1, none⟩ (.int .u8 98)).heap.size = wf.heap.size := by simp [World.setCell]
  go_wp2_with fail
  generalize (wf.setCell ⟨we.heap.size, 0, none⟩ (.int .u8 98)).setCell ⟨we.heap.size, 1, none⟩ (.int .u8 98) = wg at *
  clear cf0 cf1 ff0 ff1
  have hBh : Below wg.heap.size wg (wg.alloc (.cells #[.int .i64 1, .int .i64 3] 3)) := (Below.refl _ _).alloc (Nat.le_refl _) _
  have hsh : (wg.alloc (.cells #[.int .i64 1, .int .i64 3] 3)).heap.size = wf.heap.size + 1 := by simp [hsgf]
  have sa : Ns wa.heap.size (wf.heap.size + 1) (wg.alloc (.cells #[.int .i64 1, .int .i64 3] 3)) vl [1, 3] := by rw [← hsh]; exact Sl.ofOwn (fun _ => rfl) (Own.kept (Own.kept Hoe.out HBg.out) hBh)
  have sb : Ns wf.heap.size (wf.heap.size + 1) (wg.alloc (.cells #[.int .i64 1, .int .i64 3] 3)) (.slice (some ⟨wf.heap.size, 0, none⟩) 2 2) [1, 3] := by
    have h0 := World.ownsRow_lit (base := wf.heap.size) (e := 3) (size := 1) wg #[.int .i64 1, .int .i64 3] 2 (Nat.le_of_eq hsgf.symm) (by decide) (by rfl)
    have h1 : Ns wf.heap.size (wg.alloc (.cells #[.int .i64 1, .int .i64 3] 3)).heap.size (wg.alloc (.cells #[.int .i64 1, .int .i64 3] 3)) (.slice (some ⟨wg.heap.size, 0, none⟩) 2 2) [1, 3] := Sl.ofOwn (xs := [1, 3]) (fun _ => rfl) h0
    rwa [hsh, hsgf] at h1
  have HBh := Lib.hid (HBg.out.trans (hBh.mono hsg))
  have Hbh := Lib.hid (Hbg.out.below hBh (by omega))
  have Hsa := Lib.hid sa
  have Hsb := Lib.hid sb
  clear hBh sa sb HBg Hbg Hoe
  generalize wg.alloc (.cells #[.int .i64 1, .int .i64 3] 3) = wh at *
  refine ints_any _ _ _ _ [1, 3] [1, 3] _ _ wh Hsa.out Hsb.out (by omega) (by omega) _ (fun wi hBi => ?_)
  rw [show decide (([1, 3] : List Nat) = [1, 3]) = true from rfl]
  have hsi := hBi.size
  have HBi := Lib.hid (HBh.out.trans (hBi.mono (by omega)))
  have Hbi := Lib.hid (Hbh.out.below hBi (by omega))
  clear hBi HBh Hbh Hsa Hsb
  go_wp2_with fail
  have hbi1 : Bytes we.heap.size (we.heap.size + 1) wi (.slice (some ⟨we.heap.size, 0, none⟩) 128 128) (98 :: 98 :: List.replicate 126 97) := Bytes.ofCells (c := 128) (l := 98 :: 98 :: List.replicate 126 97) Hbi.out.cells (Nat.le_refl _) (Nat.lt_succ_self _) (by simp) (by decide)
  have Hbi1 := Lib.hid hbi1
  clear hbi1
  refine reads_any (fun q => w.heap.size ≤ q ∧ q < wa.heap.size) we.heap.size (we.heap.size + 1) db alU 4 100 1 _ _ wi (HDe.out.below HBi.out) alU_calm (by omega) Hbi1.out (by omega) _ (fun wj hBj => ?_)
  rw [alU_1]
  have hsj := hBj.size
  have HBj := Lib.hid (HBi.out.trans (hBj.mono (by omega)))
  clear hBj HBi Hbi Hbi1
  go_wp2_with fail
  refine of_any 0 wj _ (fun wk hBk hbk => ?_)
  have hsk := hBk.size
  have hbk1 : Bytes wj.heap.size (wj.heap.size + 1) wk (.slice (some ⟨wj.heap.size, 0, none⟩) 128 128) (List.replicate 128 0) := Bytes.ofCells (c := 128) (l := List.replicate 128 0) hbk.cells (Nat.le_refl _) (Nat.lt_succ_self _) (by simp) (by decide)
  have Hbk1 := Lib.hid hbk1
  have HBk := Lib.hid (HBj.out.trans (hBk.mono (by omega)))
  have hltk := hbk.lt
  clear hBk HBj hbk hbk1
  go_wp2_with fail
  refine reads_any (fun q => w.heap.size ≤ q ∧ q < wa.heap.size) wj.heap.size (wj.heap.size + 1) db alU 4 100 3 _ _ wk (HDe.out.below HBk.out) alU_calm (by omega) Hbk1.out (by omega) _ (fun wl hBl => ?_)
  rw [alU_3]
  have hr := HR.out wl (HBe.out.trans ((HBk.out.trans (hBl.mono (by omega))).mono (by omega)))
  clear hBl HBk Hbk1 HDe HBe HR
  go_wp2_with fail
  all_goals first | exact hr | exact fin hr rfl
end Go.Proofs.Ytfmpafheodpfoaa
