/- disk.bytes. -/
import Derived.Test.YtfmpafheodpfoaaDiskAt
namespace Go.Proofs.Ytfmpafheodpfoaa
open Go.RowKit

theorem zeroS_run (w : World) : (zeroValue 73).run Try.prog w = .ok (.agg (secE zeroS).toArray) w := by kernel_rfl
theorem Dk.last_eq (d : Dk) (i : Nat) (h : i < d.safe.length) (h2 : d.safe.length = d.writes.length) : d.last i = if hz : d.writes[i]'(h2 ▸ h) = [] then d.safe[i] else (d.writes[i]'(h2 ▸ h)).getLast hz := by
  have e1 : d.writes.getD i [] = d.writes[i]'(h2 ▸ h) := by simp [List.getD, List.getElem?_eq_getElem (h2 ▸ h : i < d.writes.length)]
  have e2 : d.safe.getD i [] = d.safe[i] := by simp [List.getD, List.getElem?_eq_getElem h]
  rw [Dk.last, e1, e2]
  split
  · next h => rw [h]; rfl
  · next h => rw [List.getLast?_eq_some_getLast h]; rfl

set_option maxRecDepth 100000 in
set_option maxHeartbeats 4000000 in
theorem bytes_any (S : Nat → Prop) (db sb wb kS kW : Nat) (ws : List Value) (d : Dk) (i : Nat) (hi : i < d.safe.length) (w : World) (h : DkIn w S db sb wb kS kW ws d) (R : Ending → World → Prop)
    (hR : ∀ w', Below w.heap.size w w' → R (.returned (.agg (secE (d.last i)).toArray)) w') : Calls Try.prog 32 #[.pointer (some ⟨db, 0, none⟩), .int .i64 i] w R := by
  have HR := Lib.hid hR
  have H := Lib.hid h
  have lw := h.lw
  have lr := h.lr
  have hB1 : Below w.heap.size w (w.alloc (.cells (secE zeroS).toArray 73)) := (Below.refl _ _).alloc (Nat.le_refl _) _
  have hn1 : Blk (w.alloc (.cells (secE zeroS).toArray 73)) w.heap.size (secE zeroS) 73 := Blk.new _ _ _ rfl
  have hzv := zeroS_run
  have hwi : w.cell? ⟨wb, i, none⟩ = some ws[i] := by have := h.hw.cells i ws[i] (List.getElem?_eq_getElem (by omega)); rwa [Nat.zero_add] at this
  have hdb := h.hd.lt
  have hwb := h.hw.lt
  have hcs := sec_at' h.hs h.ls i hi
  have hsb := h.hs.lt
  obtain ⟨ho0, ho⟩ := h.row i (by omega) (by omega)
  have hz0 : zeroS.length = 128 := by simp [zeroS]
  have hl0 := h.ls _ (List.getElem_mem hi)
  have hlw := h.lwr _ (List.getElem_mem (by omega : i < d.writes.length))
  have hlast := Dk.last_eq d i hi (by omega)
  have Hcap := Lib.hid h.cap
  obtain ⟨c0, c1, -, -, -⟩ := (h.hd.below hB1 hdb).cells.c5
  simp only [Nat.zero_add] at c1
  clear hR h
  generalize hW1 : w.alloc (.cells (secE zeroS).toArray 73) = W1 at *
  replace hwi : W1.cell? ⟨wb, i, none⟩ = some ws[i] := by rw [World.cell?_of_block (hB1.block wb hwb)]; exact hwi
  replace hcs := hcs.agree (.below hB1 (Nat.le_refl _)) (Nat.zero_le _) hsb
  generalize d.writes[i] = xs at *
  generalize ws[i] = v at *
  have Hn1 := Lib.hid hn1
  clear hn1
  by_cases hz : xs = []
  · obtain rfl := ho0 hz
    rw [dif_pos hz] at hlast
    have hr := HR.out (W1.setCells w.heap.size 0 (secE d.safe[i])) (belowSetCells hB1 (Nat.le_refl _) _ _)
    rw [hlast] at hr
    have hbl := blk_set1 Hn1.out hz0 d.safe[i] hl0
    have hrv := runVarS hbl.cells hl0
    have hth := there_sec Hn1.out.cells hz0 Hn1.out.free
    clear hlast ho hlw hbl
    generalize d.safe[i] = s0 at *
    go_enter Try.func32, Try.ntmps32
    go_wp2_with (first | refine atLoadS rfl rfl rfl (by assumption) (by assumption) ?_ | refine atStoreS rfl rfl rfl rfl (by assumption) (by assumption) ?_)
    exact ret_cell rfl rfl hrv rfl hr
  · rw [dif_neg hz] at hlast
    obtain ⟨g, cap, rfl, -, hg, q1, q2, hc, -⟩ := ho.form hz
    have hn : 0 < xs.length := List.length_pos_iff.2 hz
    have hw1 : IntKind.i64.wrap ((xs.length : Int) - 1) = ((xs.length - 1 : Nat) : Int) := by rw [IntKind.wrap_i64]; omega
    have hle : 0 < (xs.length : Int) := by omega
    have hcs2 := (secs_at hc hlw (xs.length - 1) (by omega)).agree (.below hB1 (Nat.le_refl _)) (Nat.zero_le _) hg
    have hl1 := hlw _ (List.getElem_mem (show xs.length - 1 < xs.length by omega))
    rw [List.getLast_eq_getElem] at hlast
    generalize xs[xs.length - 1] = s0 at *
    have hr := HR.out (W1.setCells w.heap.size 0 (secE s0)) (belowSetCells hB1 (Nat.le_refl _) _ _)
    rw [hlast] at hr
    have hbl := blk_set1 Hn1.out hz0 s0 hl1
    have hrv := runVarS hbl.cells hl1
    have hth := there_sec Hn1.out.cells hz0 Hn1.out.free
    have i1 : (0 : Int) ≤ ((xs.length - 1 : Nat) : Int) := by omega
    have i2 : ((xs.length - 1 : Nat) : Int) < (xs.length : Int) := by omega
    clear hlast ho hlw hbl hcs hl0 hc
    go_enter Try.func32, Try.ntmps32
    go_wp2_with (first | refine atLoadS rfl rfl rfl (by assumption) (by assumption) ?_ | refine atStoreS rfl rfl rfl rfl (by assumption) (by assumption) ?_)
    all_goals exact ret_cell rfl rfl hrv rfl hr
end Go.Proofs.Ytfmpafheodpfoaa
