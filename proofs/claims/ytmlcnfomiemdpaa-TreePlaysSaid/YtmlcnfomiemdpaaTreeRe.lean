/- The document's tree: Diff, Put. (Printed by treere.py.) -/
import Derived.Test.YtmlcnfomiemdpaaTreeRc
namespace Go.Proofs.Ytmlcnfomiemdpaa
open Go.RowKit
attribute [local go_sem ↓] Go.wp_at_zero Go.wp_at_succ
set_option linter.unusedVariables false
set_option linter.unusedSimpArgs false

/-- Is a pair not in a list? -/
def noP (ul : PL) (x : List UInt8 × List UInt8) : Bool := !(ul.any fun y => y == x)
theorem nof_take (ul l : PL) (i : Nat) (hi : i < l.length) : (l.take (i + 1)).filter (noP ul) = (l.take i).filter (noP ul) ++ (if (ul.any fun y => y == l[i]) = true then [] else [l[i]]) := by
  rw [List.take_succ_eq_append_getElem hi, List.filter_append]
  congr 1
  cases h : (ul.any fun y => y == l[i])
  · simp [noP, h]
  · simp [noP, h]
theorem any_step (ul : PL) (x : List UInt8 × List UInt8) (k : Nat) (hk : k < ul.length) : (ul.take (k + 1)).any (fun y => y == x) = ((ul.take k).any (fun y => y == x) || (ul[k] == x)) := by
  rw [List.take_succ_eq_append_getElem hk, List.any_append]
  simp
theorem pair_if (a b : List UInt8 × List UInt8) (w : World) : (if a.1 = b.1 then if a.2 = b.2 then (Result.ok (Next.value (Value.bool true)) w : Result Next) else .ok (.value (.bool false)) w else .ok (.value (.bool false)) w) = .ok (.value (.bool (a == b))) w := by
  rw [show (a == b) = (a.1 == b.1 && a.2 == b.2) from rfl]
  by_cases e1 : a.1 = b.1 <;> by_cases e2 : a.2 = b.2 <;> simp [e1, e2]
theorem pair_beq (a b c d : List UInt8) : (((a, b) : List UInt8 × List UInt8) == (c, d)) = (a == c && b == d) := rfl
set_option maxRecDepth 100000 in
set_option maxHeartbeats 4000000 in
theorem Diff_ref (lo hi lo2 hi2 : Nat) (l ul : PL) (sv uv : Value) (w : World) (h : Rs lo hi w sv l) (hhi : hi ≤ w.heap.size) (hl : l.length ≤ 10000) (hu : Rs lo2 hi2 w uv ul) (hhi2 : hi2 ≤ w.heap.size) (hul : ul.length ≤ 10000) (R : Ending → World → Prop)
    (hR : ∀ w' v', Below w.heap.size w w' → OwnR w.heap.size w' v' (l.filter (noP ul)) → R (.returned v') w') : Calls Try.prog 28 #[.agg #[sv], .agg #[uv]] w R := by
  have HR := Lib.hid hR
  obtain ⟨ao, cap, rfl, -, -, -, -⟩ := Sl.form h
  obtain ⟨ao2, cap2, rfl, -, -, -, -⟩ := Sl.form hu
  have hB : Below w.heap.size w ((w.alloc (.cells #[.slice ao l.length cap] 56)).alloc (.cells #[.slice ao2 ul.length cap2] 56)) := ((Below.refl _ _).alloc (Nat.le_refl _) _).alloc (by simp) _
  have hb := (Blk.new w [.slice ao l.length cap] 56 rfl).alloc (.cells #[.slice ao2 ul.length cap2] 56)
  have hb2 := Blk.new (n := w.heap.size + 1) (w.alloc (.cells #[.slice ao l.length cap] 56)) [.slice ao2 ul.length cap2] 56 (by simp)
  have H := Lib.hid (h.low hB hhi)
  have HU := Lib.hid (hu.low hB hhi2)
  have HB0 := Lib.hid hB
  have hs := hB.size
  clear hR h hB hu
  go_enter Try.func28, Try.ntmps28
  go_wp2_with fail
  generalize (w.alloc (.cells #[.slice ao l.length cap] 56)).alloc (.cells #[.slice ao2 ul.length cap2] 56) = w1 at *
  have Hb := Lib.hid hb
  have Hb2 := Lib.hid hb2
  clear hb hb2
  go_loopw [5, 6] (fun t5 t6 wr => ∃ i : Nat, i ≤ l.length ∧ t6 = .int .i64 (i : Int) ∧ Below w1.heap.size w1 wr ∧ OwnR w1.heap.size wr t5 ((l.take i).filter (noP ul))) (fun _ t6 _ => l.length - (intOf t6).toNat)
  case atStart => exact ⟨0, Nat.zero_le _, rfl, Below.refl _ _, by rw [List.take_zero]; exact Own.nil _ _ _ _ _⟩
  case round =>
    obtain ⟨i, hi1, rfl, hB, ho⟩ := hrel
    have HB := Lib.hid hB
    have HO := Lib.hid ho
    obtain ⟨p5, c5, rfl⟩ := OwnR.form ho
    have hbr := Hb.out.below hB Hb.out.lt
    have hbr2 := Hb2.out.below hB Hb2.out.lt
    have Hbr := Lib.hid hbr
    have Hbr2 := Lib.hid hbr2
    have cb := hbr.cells.c1
    have cb2 := hbr2.cells.c1
    have hwl := hB.size
    clear ho hbr hbr2
    have Hacc : Hid (((l.take i).filter (noP ul)).length ≤ 10000) := Lib.hid (by
      have := List.length_filter_le (noP ul) (l.take i)
      rw [List.length_take] at this
      omega)
    by_cases hil : i < l.length
    · obtain ⟨b, off, rfl, k1, k2, x0, x1⟩ := (H.out.low hB (Nat.le_trans hhi hs)).at i hil
      have hbb : b < wr.heap.size := by omega
      have hs3 := nof_take ul l i hil
      have i0 : (0 : Int) ≤ (i : Int) := by omega
      have il : (i : Int) < (l.length : Int) := by omega
      have wi : IntKind.i64.wrap ((i : Int) + 1) = ((i + 1 : Nat) : Int) := by rw [show (i : Int) + 1 = ((i + 1 : Nat) : Int) by omega]; exact wrap_ok (by omega) (by omega)
      have Hu := Lib.hid (HU.out.low hB (Nat.le_trans hhi2 hs))
      obtain ⟨acc, eacc⟩ : ∃ acc, acc = (l.take i).filter (noP ul) := ⟨_, rfl⟩
      rw [← eacc] at hs3 HO Hacc ⊢
      have Hs3 := Lib.hid hs3
      obtain ⟨wo, ewo⟩ : ∃ x, x = wr := ⟨_, rfl⟩
      subst ewo
      have hhi2o : hi2 ≤ wo.heap.size := Nat.le_trans (Nat.le_trans hhi2 hs) hwl
      have hbs := Hbr.out.lt
      have hbs2 := Hbr2.out.lt
      clear eacc hB hs3
      go_wp2_with fail
      go_loopw [7, 8] (fun t7 t8 wr => ∃ k : Nat, k ≤ ul.length ∧ t8 = .int .i64 (k : Int) ∧ t7 = .bool ((ul.take k).any fun y => y == l[i]) ∧ Below wo.heap.size wo wr) (fun _ t8 _ => ul.length - (intOf t8).toNat)
      case atStart => exact ⟨0, Nat.zero_le _, rfl, rfl, Below.refl _ _⟩
      case round =>
        obtain ⟨k, hk1, rfl, rfl, hBk⟩ := hrel
        have HBk := Lib.hid hBk
        have cbk := (World.cell?_of_block (hBk.block w.heap.size hbs)).trans cb
        have cbk2 := (World.cell?_of_block (hBk.block (w.heap.size + 1) hbs2)).trans cb2
        by_cases hkl : k < ul.length
        · obtain ⟨b2, off2, rfl, k3, k4, z0, z1⟩ := (Hu.out.low hBk hhi2o).at k hkl
          have hs4 := any_step ul l[i] k hkl
          have Hs := Lib.hid hs4
          have k0 : (0 : Int) ≤ (k : Int) := by omega
          have kl : (k : Int) < (ul.length : Int) := by omega
          have wk : IntKind.i64.wrap ((k : Int) + 1) = ((k + 1 : Nat) : Int) := by rw [show (k : Int) + 1 = ((k + 1 : Nat) : Int) by omega]; exact wrap_ok (by omega) (by omega)
          have hszk := hBk.size
          have xx0 := (World.cell?_of_block (hBk.block b hbb)).trans x0
          have xx1 := (World.cell?_of_block (hBk.block b hbb)).trans x1
          have hce : ∀ w', Below wr.heap.size wr w' → w'.cell? ⟨w.heap.size, 0, none⟩ = some (.slice (some ⟨b, off, none⟩) l.length cap) ∧ w'.cell? ⟨w.heap.size + 1, 0, none⟩ = some (.slice (some ⟨b2, off2, none⟩) ul.length cap2) ∧ w'.cell? ⟨b, off + i * 2, none⟩ = some (.string ⟨l[i].1.toArray⟩) ∧ w'.cell? ⟨b, off + i * 2 + 1, none⟩ = some (.string ⟨l[i].2.toArray⟩) ∧ w'.cell? ⟨b2, off2 + k * 2, none⟩ = some (.string ⟨ul[k].1.toArray⟩) ∧ w'.cell? ⟨b2, off2 + k * 2 + 1, none⟩ = some (.string ⟨ul[k].2.toArray⟩) := fun w' hh =>
            ⟨(World.cell?_of_block (hh.block _ (by show w.heap.size < wr.heap.size; omega))).trans cbk, (World.cell?_of_block (hh.block _ (by show w.heap.size + 1 < wr.heap.size; omega))).trans cbk2, (World.cell?_of_block (hh.block _ (by show b < wr.heap.size; omega))).trans xx0, (World.cell?_of_block (hh.block _ (by show b < wr.heap.size; omega))).trans xx1, (World.cell?_of_block (hh.block _ (by show b2 < wr.heap.size; omega))).trans z0, (World.cell?_of_block (hh.block _ (by show b2 < wr.heap.size; omega))).trans z1⟩
          clear xx0 xx1 hBk hs4 x0 x1 z0 z1 cb cb2
          have hd8 : Below wr.heap.size wr wr.drew := Below.drew (Below.refl _ _)
          cases hmm : ((ul.take k).any fun y => y == l[i])
          · have Hm := Lib.hid hmm
            clear hmm
            go_wp2_with fail
            refine wp_region_held_drew (S := fun w' => Below wr.heap.size wr w') (by kernel_rfl) hd8 (fun hHeld => ?_)
            refine wpAnyH_take (i := 0) (v := .bool false) rfl (by kernel_rfl) (by kernel_rfl) (by kernel_rfl) (fun _ _ _ h => h) (Or.inl ⟨by rfl, ?_⟩) hHeld ?_
            · intro w' hSw; go_simp
            try simp only [Act.put, List.getElem_toArray, List.getElem_cons_succ, List.getElem_cons_zero, List.setIfInBounds_toArray, List.set_cons_zero, List.set_cons_succ]
            refine wpAnyH_take (i := 1) (v := .bool false) rfl (by kernel_rfl) (by kernel_rfl) (by kernel_rfl) (fun _ _ _ h => h) (Or.inl ⟨by rfl, ?_⟩) hHeld ?_
            · intro w' hSw; go_simp
            try simp only [Act.put, List.getElem_toArray, List.getElem_cons_succ, List.getElem_cons_zero, List.setIfInBounds_toArray, List.set_cons_zero, List.set_cons_succ]
            refine wpAnyH_take (i := 2) (v := .pointer (some ⟨w.heap.size + 1, 0, none⟩)) rfl (by kernel_rfl) (by kernel_rfl) (by kernel_rfl) (fun _ _ _ h => h) (Or.inl ⟨by rfl, ?_⟩) hHeld ?_
            · intro w' hSw; go_simp
            try simp only [Act.put, List.getElem_toArray, List.getElem_cons_succ, List.getElem_cons_zero, List.setIfInBounds_toArray, List.set_cons_zero, List.set_cons_succ]
            refine wpAnyH_take (i := 3) (v := .slice (some ⟨b2, off2, none⟩) ul.length cap2) rfl (by kernel_rfl) (by kernel_rfl) (by kernel_rfl) (fun _ _ _ h => h) (Or.inl ⟨by rfl, ?_⟩) hHeld ?_
            · intro w' hSw; obtain ⟨q0, q1, q2, q3, q4, q5⟩ := hce w' hSw; go_simp
            try simp only [Act.put, List.getElem_toArray, List.getElem_cons_succ, List.getElem_cons_zero, List.setIfInBounds_toArray, List.set_cons_zero, List.set_cons_succ]
            refine wpAnyH_take (i := 4) (v := .int .i64 (k : Int)) rfl (by kernel_rfl) (by kernel_rfl) (by kernel_rfl) (fun _ _ _ h => h) (Or.inl ⟨by rfl, ?_⟩) hHeld ?_
            · intro w' hSw; go_simp
            try simp only [Act.put, List.getElem_toArray, List.getElem_cons_succ, List.getElem_cons_zero, List.setIfInBounds_toArray, List.set_cons_zero, List.set_cons_succ]
            refine wpAnyH_take (i := 5) (v := .pointer (some ⟨b2, off2 + k * 2, none⟩)) rfl (by kernel_rfl) (by kernel_rfl) (by kernel_rfl) (fun _ _ _ h => h) (Or.inl ⟨by rfl, ?_⟩) hHeld ?_
            · intro w' hSw; go_simp
            try simp only [Act.put, List.getElem_toArray, List.getElem_cons_succ, List.getElem_cons_zero, List.setIfInBounds_toArray, List.set_cons_zero, List.set_cons_succ]
            refine wpAnyH_take (i := 6) (v := .agg #[.string ⟨ul[k].1.toArray⟩, .string ⟨ul[k].2.toArray⟩]) rfl (by kernel_rfl) (by kernel_rfl) (by kernel_rfl) (fun _ _ _ h => h) (Or.inl ⟨by rfl, ?_⟩) hHeld ?_
            · intro w' hSw; obtain ⟨q0, q1, q2, q3, q4, q5⟩ := hce w' hSw; go_simp
            try simp only [Act.put, List.getElem_toArray, List.getElem_cons_succ, List.getElem_cons_zero, List.setIfInBounds_toArray, List.set_cons_zero, List.set_cons_succ]
            refine wpAnyH_take (i := 7) (v := .pointer (some ⟨w.heap.size, 0, none⟩)) rfl (by kernel_rfl) (by kernel_rfl) (by kernel_rfl) (fun _ _ _ h => h) (Or.inl ⟨by rfl, ?_⟩) hHeld ?_
            · intro w' hSw; go_simp
            try simp only [Act.put, List.getElem_toArray, List.getElem_cons_succ, List.getElem_cons_zero, List.setIfInBounds_toArray, List.set_cons_zero, List.set_cons_succ]
            refine wpAnyH_take (i := 8) (v := .slice (some ⟨b, off, none⟩) l.length cap) rfl (by kernel_rfl) (by kernel_rfl) (by kernel_rfl) (fun _ _ _ h => h) (Or.inl ⟨by rfl, ?_⟩) hHeld ?_
            · intro w' hSw; obtain ⟨q0, q1, q2, q3, q4, q5⟩ := hce w' hSw; go_simp
            try simp only [Act.put, List.getElem_toArray, List.getElem_cons_succ, List.getElem_cons_zero, List.setIfInBounds_toArray, List.set_cons_zero, List.set_cons_succ]
            refine wpAnyH_take (i := 9) (v := .int .i64 (i : Int)) rfl (by kernel_rfl) (by kernel_rfl) (by kernel_rfl) (fun _ _ _ h => h) (Or.inl ⟨by rfl, ?_⟩) hHeld ?_
            · intro w' hSw; go_simp
            try simp only [Act.put, List.getElem_toArray, List.getElem_cons_succ, List.getElem_cons_zero, List.setIfInBounds_toArray, List.set_cons_zero, List.set_cons_succ]
            refine wpAnyH_take (i := 10) (v := .pointer (some ⟨b, off + i * 2, none⟩)) rfl (by kernel_rfl) (by kernel_rfl) (by kernel_rfl) (fun _ _ _ h => h) (Or.inl ⟨by rfl, ?_⟩) hHeld ?_
            · intro w' hSw; go_simp
            try simp only [Act.put, List.getElem_toArray, List.getElem_cons_succ, List.getElem_cons_zero, List.setIfInBounds_toArray, List.set_cons_zero, List.set_cons_succ]
            refine wpAnyH_take (i := 11) (v := .agg #[.string ⟨l[i].1.toArray⟩, .string ⟨l[i].2.toArray⟩]) rfl (by kernel_rfl) (by kernel_rfl) (by kernel_rfl) (fun _ _ _ h => h) (Or.inl ⟨by rfl, ?_⟩) hHeld ?_
            · intro w' hSw; obtain ⟨q0, q1, q2, q3, q4, q5⟩ := hce w' hSw; go_simp
            try simp only [Act.put, List.getElem_toArray, List.getElem_cons_succ, List.getElem_cons_zero, List.setIfInBounds_toArray, List.set_cons_zero, List.set_cons_succ]
            refine wpAnyH_take (i := 12) (v := .bool (ul[k] == l[i])) rfl (by kernel_rfl) (by kernel_rfl) (by kernel_rfl) (fun _ _ _ h => h) (Or.inl ⟨by rfl, ?_⟩) hHeld ?_
            · intro w' hSw; go_simp; exact pair_if ul[k] l[i] w'
            try simp only [Act.put, List.getElem_toArray, List.getElem_cons_succ, List.getElem_cons_zero, List.setIfInBounds_toArray, List.set_cons_zero, List.set_cons_succ]
            refine wpAnyH_take (i := 13) (v := .bool (ul[k] == l[i])) rfl (by kernel_rfl) (by kernel_rfl) (by kernel_rfl) (fun _ _ _ h => h) (Or.inl ⟨by rfl, ?_⟩) hHeld ?_
            · intro w' hSw; go_simp
            try simp only [Act.put, List.getElem_toArray, List.getElem_cons_succ, List.getElem_cons_zero, List.setIfInBounds_toArray, List.set_cons_zero, List.set_cons_succ]
            refine wpAnyH_take (i := 14) (v := .bool (ul[k] == l[i])) rfl (by kernel_rfl) (by kernel_rfl) (by kernel_rfl) (fun _ _ _ h => h) (Or.inl ⟨by rfl, ?_⟩) hHeld ?_
            · intro w' hSw; go_simp
            try simp only [Act.put, List.getElem_toArray, List.getElem_cons_succ, List.getElem_cons_zero, List.setIfInBounds_toArray, List.set_cons_zero, List.set_cons_succ]
            refine wpAnyH_done (by kernel_rfl) ?_ _
            clear hHeld
            have HBn := Lib.hid (HBk.out.trans (Below.drew (Below.refl wr.heap.size wr) |>.mono HBk.out.size))
            go_wp2_with fail
            go_roundw
            case rel => exact ⟨k + 1, by omega, by go_num, by rw [Hs.out, Hm.out]; simp, HBn.out⟩
            case measure => first | (simp [intOf]; done) | (simp [intOf]; omega)
          · have Hm := Lib.hid hmm
            clear hmm
            go_wp2_with fail
            refine wp_region_held_drew (S := fun w' => Below wr.heap.size wr w') (by kernel_rfl) hd8 (fun hHeld => ?_)
            refine wpAnyH_take (i := 0) (v := .bool true) rfl (by kernel_rfl) (by kernel_rfl) (by kernel_rfl) (fun _ _ _ h => h) (Or.inl ⟨by rfl, ?_⟩) hHeld ?_
            · intro w' hSw; go_simp
            try simp only [Act.put, List.getElem_toArray, List.getElem_cons_succ, List.getElem_cons_zero, List.setIfInBounds_toArray, List.set_cons_zero, List.set_cons_succ]
            refine wpAnyH_take (i := 1) (v := .bool true) rfl (by kernel_rfl) (by kernel_rfl) (by kernel_rfl) (fun _ _ _ h => h) (Or.inl ⟨by rfl, ?_⟩) hHeld ?_
            · intro w' hSw; go_simp
            try simp only [Act.put, List.getElem_toArray, List.getElem_cons_succ, List.getElem_cons_zero, List.setIfInBounds_toArray, List.set_cons_zero, List.set_cons_succ]
            refine wpAnyH_take (i := 2) (v := undef) rfl (by kernel_rfl) (by kernel_rfl) (by kernel_rfl) (fun _ _ _ h => h) (Or.inr ⟨by kernel_rfl, rfl⟩) hHeld ?_
            try simp only [Act.put, List.getElem_toArray, List.getElem_cons_succ, List.getElem_cons_zero, List.setIfInBounds_toArray, List.set_cons_zero, List.set_cons_succ]
            refine wpAnyH_take (i := 3) (v := undef) rfl (by kernel_rfl) (by kernel_rfl) (by kernel_rfl) (fun _ _ _ h => h) (Or.inr ⟨by kernel_rfl, rfl⟩) hHeld ?_
            try simp only [Act.put, List.getElem_toArray, List.getElem_cons_succ, List.getElem_cons_zero, List.setIfInBounds_toArray, List.set_cons_zero, List.set_cons_succ]
            refine wpAnyH_take (i := 4) (v := undef) rfl (by kernel_rfl) (by kernel_rfl) (by kernel_rfl) (fun _ _ _ h => h) (Or.inr ⟨by kernel_rfl, rfl⟩) hHeld ?_
            try simp only [Act.put, List.getElem_toArray, List.getElem_cons_succ, List.getElem_cons_zero, List.setIfInBounds_toArray, List.set_cons_zero, List.set_cons_succ]
            refine wpAnyH_take (i := 5) (v := undef) rfl (by kernel_rfl) (by kernel_rfl) (by kernel_rfl) (fun _ _ _ h => h) (Or.inr ⟨by kernel_rfl, rfl⟩) hHeld ?_
            try simp only [Act.put, List.getElem_toArray, List.getElem_cons_succ, List.getElem_cons_zero, List.setIfInBounds_toArray, List.set_cons_zero, List.set_cons_succ]
            refine wpAnyH_take (i := 6) (v := undef) rfl (by kernel_rfl) (by kernel_rfl) (by kernel_rfl) (fun _ _ _ h => h) (Or.inr ⟨by kernel_rfl, rfl⟩) hHeld ?_
            try simp only [Act.put, List.getElem_toArray, List.getElem_cons_succ, List.getElem_cons_zero, List.setIfInBounds_toArray, List.set_cons_zero, List.set_cons_succ]
            refine wpAnyH_take (i := 7) (v := undef) rfl (by kernel_rfl) (by kernel_rfl) (by kernel_rfl) (fun _ _ _ h => h) (Or.inr ⟨by kernel_rfl, rfl⟩) hHeld ?_
            try simp only [Act.put, List.getElem_toArray, List.getElem_cons_succ, List.getElem_cons_zero, List.setIfInBounds_toArray, List.set_cons_zero, List.set_cons_succ]
            refine wpAnyH_take (i := 8) (v := undef) rfl (by kernel_rfl) (by kernel_rfl) (by kernel_rfl) (fun _ _ _ h => h) (Or.inr ⟨by kernel_rfl, rfl⟩) hHeld ?_
            try simp only [Act.put, List.getElem_toArray, List.getElem_cons_succ, List.getElem_cons_zero, List.setIfInBounds_toArray, List.set_cons_zero, List.set_cons_succ]
            refine wpAnyH_take (i := 9) (v := undef) rfl (by kernel_rfl) (by kernel_rfl) (by kernel_rfl) (fun _ _ _ h => h) (Or.inr ⟨by kernel_rfl, rfl⟩) hHeld ?_
            try simp only [Act.put, List.getElem_toArray, List.getElem_cons_succ, List.getElem_cons_zero, List.setIfInBounds_toArray, List.set_cons_zero, List.set_cons_succ]
            refine wpAnyH_take (i := 10) (v := undef) rfl (by kernel_rfl) (by kernel_rfl) (by kernel_rfl) (fun _ _ _ h => h) (Or.inr ⟨by kernel_rfl, rfl⟩) hHeld ?_
            try simp only [Act.put, List.getElem_toArray, List.getElem_cons_succ, List.getElem_cons_zero, List.setIfInBounds_toArray, List.set_cons_zero, List.set_cons_succ]
            refine wpAnyH_take (i := 11) (v := undef) rfl (by kernel_rfl) (by kernel_rfl) (by kernel_rfl) (fun _ _ _ h => h) (Or.inr ⟨by kernel_rfl, rfl⟩) hHeld ?_
            try simp only [Act.put, List.getElem_toArray, List.getElem_cons_succ, List.getElem_cons_zero, List.setIfInBounds_toArray, List.set_cons_zero, List.set_cons_succ]
            refine wpAnyH_take (i := 12) (v := undef) rfl (by kernel_rfl) (by kernel_rfl) (by kernel_rfl) (fun _ _ _ h => h) (Or.inr ⟨by kernel_rfl, rfl⟩) hHeld ?_
            try simp only [Act.put, List.getElem_toArray, List.getElem_cons_succ, List.getElem_cons_zero, List.setIfInBounds_toArray, List.set_cons_zero, List.set_cons_succ]
            refine wpAnyH_take (i := 13) (v := .bool true) rfl (by kernel_rfl) (by kernel_rfl) (by kernel_rfl) (fun _ _ _ h => h) (Or.inl ⟨by rfl, ?_⟩) hHeld ?_
            · intro w' hSw; go_simp
            try simp only [Act.put, List.getElem_toArray, List.getElem_cons_succ, List.getElem_cons_zero, List.setIfInBounds_toArray, List.set_cons_zero, List.set_cons_succ]
            refine wpAnyH_take (i := 14) (v := .bool true) rfl (by kernel_rfl) (by kernel_rfl) (by kernel_rfl) (fun _ _ _ h => h) (Or.inl ⟨by rfl, ?_⟩) hHeld ?_
            · intro w' hSw; go_simp
            try simp only [Act.put, List.getElem_toArray, List.getElem_cons_succ, List.getElem_cons_zero, List.setIfInBounds_toArray, List.set_cons_zero, List.set_cons_succ]
            refine wpAnyH_done (by kernel_rfl) ?_ _
            clear hHeld
            have HBn := Lib.hid (HBk.out.trans (Below.drew (Below.refl wr.heap.size wr) |>.mono HBk.out.size))
            go_wp2_with fail
            go_roundw
            case rel => exact ⟨k + 1, by omega, by go_num, by rw [Hs.out, Hm.out]; simp, HBn.out⟩
            case measure => first | (simp [intOf]; done) | (simp [intOf]; omega)
        · have hek : ul.take k = ul := List.take_of_length_le (by omega)
          rw [hek]
          have hwl3 := hBk.size
          have HB3 := Lib.hid (HB.out.trans (hBk.mono hwl))
          have hlo3 : w1.heap.size ≤ wr.heap.size := Nat.le_trans hwl hwl3
          have HO3 := Lib.hid (Own.kept HO.out hBk)
          replace x0 := (World.cell?_of_block (hBk.block b hbb)).trans x0
          replace x1 := (World.cell?_of_block (hBk.block b hbb)).trans x1
          cases hmm : (ul.any fun y => y == l[i])
          · have hs5 := Hs3.out
            rw [hmm, if_neg (by decide)] at hs5
            have Hs5 := Lib.hid hs5
            obtain ⟨v', w', hrun, ho', ha'⟩ := appR1 HO3.out l[i].1 l[i].2 (n := wr.heap.size) rfl (by have := Hacc.out; omega) hlo3
            have hbl := ha'.below hlo3 (fun k hk => (HO3.out.lt k hk).1)
            rw [show acc ++ [(l[i].1, l[i].2)] = (l.take (i + 1)).filter (noP ul) from Hs5.out.symm] at ho'
            have HO2 := Lib.hid ho'
            have HB2 := Lib.hid (HB3.out.trans hbl)
            clear ha' hbl ho' hs5 hmm hBk cb cb2
            go_wp2_with (at_builtin; refine AtApp.of ?_)
            refine AtApp.go hrun rfl rfl rfl rfl ?_
            clear hrun
            go_wp2_with fail
            go_roundw
            case rel => exact ⟨i + 1, by omega, by go_num, HB2.out, HO2.out⟩
            case measure => first | (simp [intOf]; done) | (simp [intOf]; omega)
          · have hs5 := Hs3.out
            rw [hmm, if_pos rfl, List.append_nil] at hs5
            have HO2 : Hid (OwnR w1.heap.size wr (.slice p5 acc.length c5) ((l.take (i + 1)).filter (noP ul))) := Lib.hid (by rw [hs5]; exact HO3.out)
            clear hs5 hmm hBk cb cb2
            go_wp2_with fail
            go_roundw
            case rel => exact ⟨i + 1, by omega, by go_num, HB3.out, HO2.out⟩
            case measure => first | (simp [intOf]; done) | (simp [intOf]; omega)
    · have he : l.take i = l := List.take_of_length_le (by omega)
      rw [he] at HO ⊢
      have hr := HR.out _ _ (HB0.out.trans (hB.mono HB0.out.size)) (Own.same' HO.out hs (fun g hg => rfl))
      clear hB he
      go_wp2_with fail
      first | exact hr | exact fin hr rfl
end Go.Proofs.Ytmlcnfomiemdpaa
