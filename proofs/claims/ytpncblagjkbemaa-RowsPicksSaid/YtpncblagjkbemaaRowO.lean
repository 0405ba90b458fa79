/- The law's same on relations that are alike. (Printed by rowo.py.) -/
import Derived.Test.YtpncblagjkbemaaRowN
namespace Go.Proofs.Ytpncblagjkbemaa
open Go.RowKit
set_option linter.unusedVariables false
set_option linter.unusedSimpArgs false

set_option maxRecDepth 100000 in
set_option maxHeartbeats 4000000 in
theorem lawSame_any (lo hi lo2 hi2 lc hc lc2 hc2 : Nat) (cols : List S) (l : List (List V)) (ca cb la lb : Value) (w : World) (hca : Strs lc hc w ca cols) (hcb : Strs lc2 hc2 w cb cols) (hla : Rws lo hi w la l) (hlb : Rws lo2 hi2 w lb l) (h1 : hc ≤ w.heap.size) (h2 : hc2 ≤ w.heap.size) (h3 : hi ≤ w.heap.size) (h4 : hi2 ≤ w.heap.size) (hrs : ∀ x ∈ l, ∀ a ∈ x, a.s.length ≤ 9223372036854775807) (R : Ending → World → Prop)
    (hR : ∀ w', Below w.heap.size w w' → R (.returned (.bool true)) w') : Calls Try.prog 29 #[.agg #[ca, la], .agg #[cb, lb]] w R := by
  have HR := Lib.hid hR
  have HCa := Lib.hid hca
  have HCb := Lib.hid hcb
  have HLa := Lib.hid hla
  have HLb := Lib.hid hlb
  have Hrs := Lib.hid hrs
  obtain ⟨aca, cca, rfl, -, -, -, -⟩ := hca.form
  obtain ⟨acb, ccb, rfl, -, -, -, -⟩ := hcb.form
  obtain ⟨ala, cla, rfl, -, -, -, -⟩ := hla.form
  obtain ⟨alb, clb, rfl, -, -, -, -⟩ := hlb.form
  clear hR hca hcb hla hlb hrs
  go_enter Try.func29, Try.ntmps29
  go_upto_region 1 with fail
  obtain ⟨w0, hw0⟩ : ∃ w0, w0 = (w.alloc (.cells #[.slice aca cols.length cca, .slice ala l.length cla] 34)).alloc (.cells #[.slice acb cols.length ccb, .slice alb l.length clb] 34) := ⟨_, rfl⟩
  have s1 : (w.alloc (.cells #[.slice aca cols.length cca, .slice ala l.length cla] 34)).heap.size = w.heap.size + 1 := Array.size_push _
  have hB0 : Below w.heap.size w w0 := by
    rw [hw0]
    exact (alloc_below w _).alloc (by rw [s1]; omega) _
  have hz0 : w.heap.size + 1 < w0.heap.size := by
    rw [hw0]
    show _ < (Array.push _ _).size
    rw [Array.size_push, s1]; omega
  have hb1 : Blk w0 w.heap.size [.slice aca cols.length cca, .slice ala l.length cla] 34 := by
    rw [hw0]
    exact (Blk.new w [.slice aca cols.length cca, .slice ala l.length cla] _ rfl).alloc _
  have hb2 : Blk w0 (w.heap.size + 1) [.slice acb cols.length ccb, .slice alb l.length clb] 34 := by
    rw [hw0]
    exact Blk.new _ [.slice acb cols.length ccb, .slice alb l.length clb] _ s1.symm
  rw [← hw0]
  clear hw0 s1
  have HB0 := Lib.hid hB0
  have HA := Lib.hid hb1
  have HBb := Lib.hid hb2
  have hb1l : w.heap.size < w0.heap.size := by omega
  clear hB0 hb1 hb2
  have hS0 : Below w0.heap.size w0 w0.drew := (Below.refl _ _).drew
  refine wp_region_held_drew (S := fun w' => Below w0.heap.size w0 w') (by kernel_rfl) hS0 (fun hHeld => ?_)
  refine wpAnyH_take (i := 0) (v := .agg #[.slice aca cols.length cca, .slice ala l.length cla]) rfl (by kernel_rfl) (by kernel_rfl) (by kernel_rfl) (fun _ _ _ h => h) (Or.inl ⟨by rfl, ?_⟩) hHeld ?_
  · intro w' hSw; have kx := (HA.out.below hSw hb1l).cells.runVar (P := Try.prog) (t := 34) (fun _ => by kernel_rfl) (fun _ => by kernel_rfl); obtain ⟨z0, z1⟩ := (HA.out.below hSw hb1l).cells.c2; simp only [Nat.zero_add] at z1; go_simp
  try simp only [Act.put, List.getElem_toArray, List.getElem_cons_succ, List.getElem_cons_zero, List.setIfInBounds_toArray, List.set_cons_zero, List.set_cons_succ]
  refine wpAnyH_take (i := 2) (v := .agg #[.slice acb cols.length ccb, .slice alb l.length clb]) rfl (by kernel_rfl) (by kernel_rfl) (by kernel_rfl) (fun _ _ _ h => h) (Or.inl ⟨by rfl, ?_⟩) hHeld ?_
  · intro w' hSw; have kx := (HBb.out.below hSw hz0).cells.runVar (P := Try.prog) (t := 34) (fun _ => by kernel_rfl) (fun _ => by kernel_rfl); obtain ⟨z0, z1⟩ := (HBb.out.below hSw hz0).cells.c2; simp only [Nat.zero_add] at z1; go_simp
  try simp only [Act.put, List.getElem_toArray, List.getElem_cons_succ, List.getElem_cons_zero, List.setIfInBounds_toArray, List.set_cons_zero, List.set_cons_succ]
  refine wpAnyH_ready (rs := [1]) (by kernel_rfl) (by simp) ?_
  refine allCall (f := 32) (args := #[.agg #[.slice aca cols.length cca, .slice ala l.length cla]]) rfl (by kernel_rfl) (by kernel_rfl) ?_ AllReadyH.nil
  refine ref_any _ _ _ _ _ _ w0.drew _ (fun wq1 hB => ?_)
  refine ⟨_, rfl, hHeld.trans (hB.mono hHeld.size), ?_⟩
  have hHeld2 := hHeld.trans (hB.mono hHeld.size)
  clear hHeld
  have hHeld := hHeld2
  clear hHeld2
  clear hB
  try simp only [Act.put, List.getElem_toArray, List.getElem_cons_succ, List.getElem_cons_zero, List.setIfInBounds_toArray, List.set_cons_zero, List.set_cons_succ]
  refine wpAnyH_ready (rs := [3]) (by kernel_rfl) (by simp) ?_
  refine allCall (f := 32) (args := #[.agg #[.slice acb cols.length ccb, .slice alb l.length clb]]) rfl (by kernel_rfl) (by kernel_rfl) ?_ AllReadyH.nil
  refine ref_any _ _ _ _ _ _ wq1 _ (fun wq2 hB => ?_)
  refine ⟨_, rfl, hHeld.trans (hB.mono hHeld.size), ?_⟩
  have hHeld2 := hHeld.trans (hB.mono hHeld.size)
  clear hHeld
  have hHeld := hHeld2
  clear hHeld2
  clear hB
  try simp only [Act.put, List.getElem_toArray, List.getElem_cons_succ, List.getElem_cons_zero, List.setIfInBounds_toArray, List.set_cons_zero, List.set_cons_succ]
  refine wpAnyH_ready (rs := [4]) (by kernel_rfl) (by simp) ?_
  refine allCall (f := 56) (args := #[.agg #[.slice aca cols.length cca, .slice ala l.length cla], .agg #[.slice acb cols.length ccb, .slice alb l.length clb]]) rfl (by kernel_rfl) (by kernel_rfl) ?_ AllReadyH.nil
  refine Same_any lo hi lo2 hi2 lc hc lc2 hc2 cols l _ _ _ _ wq2 (Sl.below HCa.out Strs.loc (HB0.out.trans (hHeld.mono (by omega))) h1) (Sl.below HCb.out Strs.loc (HB0.out.trans (hHeld.mono (by omega))) h2) (Sl.below HLa.out rowE_loc (HB0.out.trans (hHeld.mono (by omega))) h3) (Sl.below HLb.out rowE_loc (HB0.out.trans (hHeld.mono (by omega))) h4) (by have := hHeld.size; omega) (by have := hHeld.size; omega) (by have := hHeld.size; omega) (by have := hHeld.size; omega) Hrs.out _ (fun wq3 hB => ?_)
  refine ⟨_, rfl, hHeld.trans (hB.mono hHeld.size), ?_⟩
  have hHeld2 := hHeld.trans (hB.mono hHeld.size)
  clear hHeld
  have hHeld := hHeld2
  clear hHeld2
  clear hB
  try simp only [Act.put, List.getElem_toArray, List.getElem_cons_succ, List.getElem_cons_zero, List.setIfInBounds_toArray, List.set_cons_zero, List.set_cons_succ]
  refine wpAnyH_take (i := 5) (v := .bool true) rfl (by kernel_rfl) (by kernel_rfl) (by kernel_rfl) (fun _ _ _ h => h) (Or.inl ⟨by rfl, ?_⟩) hHeld ?_
  · intro w' hSw; go_simp
  try simp only [Act.put, List.getElem_toArray, List.getElem_cons_succ, List.getElem_cons_zero, List.setIfInBounds_toArray, List.set_cons_zero, List.set_cons_succ]
  have HH2 := Lib.hid hHeld
  refine wpAnyH_done (by kernel_rfl) ?_ _
  clear hHeld
  have hr := HR.out _ (HB0.out.trans (HH2.out.mono (by omega)))
  go_wp2_with fail
  first | exact hr | exact fin hr rfl
end Go.Proofs.Ytpncblagjkbemaa
