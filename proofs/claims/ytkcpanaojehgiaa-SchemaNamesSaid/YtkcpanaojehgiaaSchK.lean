/- The document's attributes of facts. (Printed by schk.py.) -/
import Derived.Test.YtkcpanaojehgiaaSchJ
namespace Go.Proofs.Ytkcpanaojehgiaa
open Go.RowKit
set_option linter.unusedVariables false
set_option linter.unusedSimpArgs false

set_option maxRecDepth 100000 in
set_option maxHeartbeats 16000000 in
theorem refOf_any (lo hi : Nat) (l : List Ft) (v : Value) (w : World) (hv : Fts lo hi w v l) (hhi : hi ≤ w.heap.size) (hlen : l.length ≤ 2000000000000) (hl : ∀ x ∈ l, x.v.s.length ≤ 9223372036854775807) (R : Ending → World → Prop)
    (hR : ∀ w' v', Below w.heap.size w w' → OwnA w.heap.size w' v' (ofAttrs l) → R (.returned (.tuple #[v', .int .i64 (ofErr l)])) w') : Calls Try.prog 13 #[v] w R := by
  have HR := Lib.hid hR
  have Hv := Lib.hid hv
  have Hl := Lib.hid hl
  obtain ⟨av, cv, rfl, -, -, -, -⟩ := hv.form
  clear hR hv hl
  go_enter Try.func13, Try.ntmps13
  go_wp2_with fail
  refine fMay_any lo hi l _ w Hv.out hhi Hl.out _ (fun w1 hB1 => ?_)
  have HB1 := Lib.hid hB1
  have hz1 := hB1.size
  clear hB1
  cases hok : factsB l
  · have he : ofErr l = 60 := by simp [ofErr, hok]
    have hr := HR.out w1 (.slice none 0 0) HB1.out (by unfold ofAttrs; rw [he]; exact Own.nil _ _ _ _ _)
    rw [he] at hr
    clear he
    go_wp2_with fail
    first | exact hr | exact fin hr rfl
  have Hok := Lib.hid hok
  clear hok
  go_wp2_with fail
  refine refBuiltin_any w1 _ (fun w2 v2 hB2 ho2 => ?_)
  have HB2 := Lib.hid (HB1.out.trans (hB2.mono hz1))
  have Ho2 := Lib.hid (OwnA.lower ho2 hz1)
  clear hB2 ho2
  go_wp2_with fail
  go_loopw [5, 6, 7, 8] (fun t5 t6 _ _ wr => ∃ k : Nat, k ≤ l.length ∧ t6 = .int .i64 k ∧ OwnA w.heap.size wr t5 (builtinL ++ ofTo l k) ∧ Below w.heap.size w wr) (fun _ t6 _ _ _ => l.length - (intOf t6).toNat)
  case atStart => exact ⟨0, Nat.zero_le _, rfl, by rw [show ofTo l 0 = [] from rfl, List.append_nil]; exact Ho2.out, HB2.out⟩
  case round =>
    obtain ⟨k, hk, rfl, ho, hB⟩ := hrel
    obtain ⟨wo, ewo⟩ : ∃ x, x = wr := ⟨_, rfl⟩
    subst ewo
    have HB := Lib.hid hB
    have hz := hB.size
    by_cases hlt : k < l.length
    · have hXl : (builtinL ++ ofTo l k).length ≤ 2000000000007 := by rw [List.length_append]; have := ofTo_len l k; simp only [builtinL, List.length_cons, List.length_nil]; omega
      obtain ⟨X, hX⟩ : ∃ X, X = builtinL ++ ofTo l k := ⟨_, rfl⟩
      rw [← hX] at ho hXl
      have HX := Lib.hid hX
      clear hX
      have Ho := Lib.hid ho
      obtain ⟨p5, c5, rfl⟩ := Own.slice ho
      obtain ⟨ao', cap, e', -, -, -, hc⟩ := (Sl.below Hv.out ftE_loc hB hhi).form
      injection e' with e1 e2 e3
      subst e1 e3
      obtain ⟨b, off, rfl, hb1, hb2, hcc⟩ := hc k hlt
      obtain ⟨cs, _, hcs, sv, rfl, -⟩ := hcc k hlt
      obtain ⟨h0, -⟩ := hcs.f6
      have hxe : l.getD k default = l[k] := getD_at l _ k hlt
      have kk0 : (0 : Int) ≤ (k : Int) := by omega
      have kkl : (k : Int) < (l.length : Int) := by omega
      clear hcs hc hB ho
      by_cases hk0 : 0 < k
      · obtain ⟨m, hm⟩ : ∃ m, k = m + 1 := ⟨k - 1, by omega⟩
        have hml : m < l.length := by omega
        obtain ⟨cs2, _, hcs2, sv2, rfl, -⟩ := hcc m hml
        obtain ⟨g0, -⟩ := hcs2.f6
        have wj : IntKind.i64.wrap ((k : Int) - 1) = (m : Int) := by rw [show (k : Int) - 1 = (m : Int) by omega]; exact wrap_ok (by omega) (by omega)
        have j0 : (0 : Int) ≤ (m : Int) := by omega
        have jl : (m : Int) < (l.length : Int) := by omega
        have hfo : firstO l k = if l[k].e = l[m].e then none else madeR l l[k].e := by
          unfold firstO
          rw [hxe, show k - 1 = m by omega, getD_at l _ m hml]
          simp [hk0]
        clear hcs2 hcc hxe hm
        generalize l[m].e = pe at *
        generalize l[k].e = xe at *
        by_cases hep : xe = pe
        · rw [if_pos hep] at hfo
          have Hto2 : Hid (builtinL ++ ofTo l (k + 1) = X) := Lib.hid (by rw [HX.out, ofTo_succ, hfo]; simp)
          clear hfo
          go_upto_region 8 with fail
          refine wp_region_held_drew (S := fun w' => w' = wo.drew) (by kernel_rfl) rfl (fun hHeld => ?_)
          refine wpAnyH_take (i := 0) (v := .int .i64 ((k : Int))) rfl (by kernel_rfl) (by kernel_rfl) (by kernel_rfl) (fun _ _ _ h => h) (Or.inl ⟨by rfl, ?_⟩) hHeld ?_
          · intro w' hSw; subst hSw; go_simp <;> omega
          try simp only [Act.put, List.getElem_toArray, List.getElem_cons_succ, List.getElem_cons_zero, List.setIfInBounds_toArray, List.set_cons_zero, List.set_cons_succ]
          refine wpAnyH_take (i := 1) (v := .bool true) rfl (by kernel_rfl) (by kernel_rfl) (by kernel_rfl) (fun _ _ _ h => h) (Or.inl ⟨by rfl, ?_⟩) hHeld ?_
          · intro w' hSw; subst hSw; go_simp <;> omega
          try simp only [Act.put, List.getElem_toArray, List.getElem_cons_succ, List.getElem_cons_zero, List.setIfInBounds_toArray, List.set_cons_zero, List.set_cons_succ]
          refine wpAnyH_take (i := 2) (v := .bool true) rfl (by kernel_rfl) (by kernel_rfl) (by kernel_rfl) (fun _ _ _ h => h) (Or.inl ⟨by rfl, ?_⟩) hHeld ?_
          · intro w' hSw; subst hSw; go_simp <;> omega
          try simp only [Act.put, List.getElem_toArray, List.getElem_cons_succ, List.getElem_cons_zero, List.setIfInBounds_toArray, List.set_cons_zero, List.set_cons_succ]
          refine wpAnyH_take (i := 3) (v := .slice (some ⟨b, off, none⟩) l.length cv) rfl (by kernel_rfl) (by kernel_rfl) (by kernel_rfl) (fun _ _ _ h => h) (Or.inl ⟨by rfl, ?_⟩) hHeld ?_
          · intro w' hSw; subst hSw; go_simp <;> omega
          try simp only [Act.put, List.getElem_toArray, List.getElem_cons_succ, List.getElem_cons_zero, List.setIfInBounds_toArray, List.set_cons_zero, List.set_cons_succ]
          refine wpAnyH_take (i := 4) (v := .int .i64 ((k : Int))) rfl (by kernel_rfl) (by kernel_rfl) (by kernel_rfl) (fun _ _ _ h => h) (Or.inl ⟨by rfl, ?_⟩) hHeld ?_
          · intro w' hSw; subst hSw; go_simp <;> omega
          try simp only [Act.put, List.getElem_toArray, List.getElem_cons_succ, List.getElem_cons_zero, List.setIfInBounds_toArray, List.set_cons_zero, List.set_cons_succ]
          refine wpAnyH_take (i := 5) (v := .pointer (some ⟨b, off + k * 6, none⟩)) rfl (by kernel_rfl) (by kernel_rfl) (by kernel_rfl) (fun _ _ _ h => h) (Or.inl ⟨by rfl, ?_⟩) hHeld ?_
          · intro w' hSw; subst hSw; go_simp <;> omega
          try simp only [Act.put, List.getElem_toArray, List.getElem_cons_succ, List.getElem_cons_zero, List.setIfInBounds_toArray, List.set_cons_zero, List.set_cons_succ]
          refine wpAnyH_take (i := 6) (v := .pointer (some ⟨b, off + k * 6, none⟩)) rfl (by kernel_rfl) (by kernel_rfl) (by kernel_rfl) (fun _ _ _ h => h) (Or.inl ⟨by rfl, ?_⟩) hHeld ?_
          · intro w' hSw; subst hSw; go_simp <;> omega
          try simp only [Act.put, List.getElem_toArray, List.getElem_cons_succ, List.getElem_cons_zero, List.setIfInBounds_toArray, List.set_cons_zero, List.set_cons_succ]
          refine wpAnyH_take (i := 7) (v := .int .i64 xe) rfl (by kernel_rfl) (by kernel_rfl) (by kernel_rfl) (fun _ _ _ h => h) (Or.inl ⟨by rfl, ?_⟩) hHeld ?_
          · intro w' hSw; subst hSw; have kx := h0; go_simp
          try simp only [Act.put, List.getElem_toArray, List.getElem_cons_succ, List.getElem_cons_zero, List.setIfInBounds_toArray, List.set_cons_zero, List.set_cons_succ]
          refine wpAnyH_take (i := 8) (v := .slice (some ⟨b, off, none⟩) l.length cv) rfl (by kernel_rfl) (by kernel_rfl) (by kernel_rfl) (fun _ _ _ h => h) (Or.inl ⟨by rfl, ?_⟩) hHeld ?_
          · intro w' hSw; subst hSw; go_simp <;> omega
          try simp only [Act.put, List.getElem_toArray, List.getElem_cons_succ, List.getElem_cons_zero, List.setIfInBounds_toArray, List.set_cons_zero, List.set_cons_succ]
          refine wpAnyH_take (i := 9) (v := .int .i64 ((k : Int))) rfl (by kernel_rfl) (by kernel_rfl) (by kernel_rfl) (fun _ _ _ h => h) (Or.inl ⟨by rfl, ?_⟩) hHeld ?_
          · intro w' hSw; subst hSw; go_simp <;> omega
          try simp only [Act.put, List.getElem_toArray, List.getElem_cons_succ, List.getElem_cons_zero, List.setIfInBounds_toArray, List.set_cons_zero, List.set_cons_succ]
          refine wpAnyH_take (i := 10) (v := .int .i64 ((m : Int))) rfl (by kernel_rfl) (by kernel_rfl) (by kernel_rfl) (fun _ _ _ h => h) (Or.inl ⟨by rfl, ?_⟩) hHeld ?_
          · intro w' hSw; subst hSw; go_simp <;> omega
          try simp only [Act.put, List.getElem_toArray, List.getElem_cons_succ, List.getElem_cons_zero, List.setIfInBounds_toArray, List.set_cons_zero, List.set_cons_succ]
          refine wpAnyH_take (i := 11) (v := .pointer (some ⟨b, off + m * 6, none⟩)) rfl (by kernel_rfl) (by kernel_rfl) (by kernel_rfl) (fun _ _ _ h => h) (Or.inl ⟨by rfl, ?_⟩) hHeld ?_
          · intro w' hSw; subst hSw; go_simp <;> omega
          try simp only [Act.put, List.getElem_toArray, List.getElem_cons_succ, List.getElem_cons_zero, List.setIfInBounds_toArray, List.set_cons_zero, List.set_cons_succ]
          refine wpAnyH_take (i := 12) (v := .pointer (some ⟨b, off + m * 6, none⟩)) rfl (by kernel_rfl) (by kernel_rfl) (by kernel_rfl) (fun _ _ _ h => h) (Or.inl ⟨by rfl, ?_⟩) hHeld ?_
          · intro w' hSw; subst hSw; go_simp <;> omega
          try simp only [Act.put, List.getElem_toArray, List.getElem_cons_succ, List.getElem_cons_zero, List.setIfInBounds_toArray, List.set_cons_zero, List.set_cons_succ]
          refine wpAnyH_take (i := 13) (v := .int .i64 pe) rfl (by kernel_rfl) (by kernel_rfl) (by kernel_rfl) (fun _ _ _ h => h) (Or.inl ⟨by rfl, ?_⟩) hHeld ?_
          · intro w' hSw; subst hSw; have kx := g0; go_simp
          try simp only [Act.put, List.getElem_toArray, List.getElem_cons_succ, List.getElem_cons_zero, List.setIfInBounds_toArray, List.set_cons_zero, List.set_cons_succ]
          refine wpAnyH_take (i := 14) (v := .bool true) rfl (by kernel_rfl) (by kernel_rfl) (by kernel_rfl) (fun _ _ _ h => h) (Or.inl ⟨by rfl, ?_⟩) hHeld ?_
          · intro w' hSw; subst hSw; go_simp <;> omega
          try simp only [Act.put, List.getElem_toArray, List.getElem_cons_succ, List.getElem_cons_zero, List.setIfInBounds_toArray, List.set_cons_zero, List.set_cons_succ]
          refine wpAnyH_take (i := 15) (v := .bool true) rfl (by kernel_rfl) (by kernel_rfl) (by kernel_rfl) (fun _ _ _ h => h) (Or.inl ⟨by rfl, ?_⟩) hHeld ?_
          · intro w' hSw; subst hSw; go_simp <;> omega
          try simp only [Act.put, List.getElem_toArray, List.getElem_cons_succ, List.getElem_cons_zero, List.setIfInBounds_toArray, List.set_cons_zero, List.set_cons_succ]
          refine wpAnyH_done (by kernel_rfl) ?_ _
          clear hHeld
          go_wp2_with fail
          go_roundw
          case rel => exact ⟨k + 1, by omega, by go_num, by rw [Hto2.out]; exact Own.same Ho.out (fun _ _ => rfl), HB.out.drew⟩
          case measure => simp [intOf]; omega
        · rw [if_neg hep] at hfo
          have hep2 : (xe == pe) = false := by simpa using hep
          go_upto_region 8 with fail
          refine wp_region_held_drew (S := fun w' => w' = wo.drew) (by kernel_rfl) rfl (fun hHeld => ?_)
          refine wpAnyH_take (i := 0) (v := .int .i64 ((k : Int))) rfl (by kernel_rfl) (by kernel_rfl) (by kernel_rfl) (fun _ _ _ h => h) (Or.inl ⟨by rfl, ?_⟩) hHeld ?_
          · intro w' hSw; subst hSw; go_simp <;> omega
          try simp only [Act.put, List.getElem_toArray, List.getElem_cons_succ, List.getElem_cons_zero, List.setIfInBounds_toArray, List.set_cons_zero, List.set_cons_succ]
          refine wpAnyH_take (i := 1) (v := .bool true) rfl (by kernel_rfl) (by kernel_rfl) (by kernel_rfl) (fun _ _ _ h => h) (Or.inl ⟨by rfl, ?_⟩) hHeld ?_
          · intro w' hSw; subst hSw; go_simp <;> omega
          try simp only [Act.put, List.getElem_toArray, List.getElem_cons_succ, List.getElem_cons_zero, List.setIfInBounds_toArray, List.set_cons_zero, List.set_cons_succ]
          refine wpAnyH_take (i := 2) (v := .bool true) rfl (by kernel_rfl) (by kernel_rfl) (by kernel_rfl) (fun _ _ _ h => h) (Or.inl ⟨by rfl, ?_⟩) hHeld ?_
          · intro w' hSw; subst hSw; go_simp <;> omega
          try simp only [Act.put, List.getElem_toArray, List.getElem_cons_succ, List.getElem_cons_zero, List.setIfInBounds_toArray, List.set_cons_zero, List.set_cons_succ]
          refine wpAnyH_take (i := 3) (v := .slice (some ⟨b, off, none⟩) l.length cv) rfl (by kernel_rfl) (by kernel_rfl) (by kernel_rfl) (fun _ _ _ h => h) (Or.inl ⟨by rfl, ?_⟩) hHeld ?_
          · intro w' hSw; subst hSw; go_simp <;> omega
          try simp only [Act.put, List.getElem_toArray, List.getElem_cons_succ, List.getElem_cons_zero, List.setIfInBounds_toArray, List.set_cons_zero, List.set_cons_succ]
          refine wpAnyH_take (i := 4) (v := .int .i64 ((k : Int))) rfl (by kernel_rfl) (by kernel_rfl) (by kernel_rfl) (fun _ _ _ h => h) (Or.inl ⟨by rfl, ?_⟩) hHeld ?_
          · intro w' hSw; subst hSw; go_simp <;> omega
          try simp only [Act.put, List.getElem_toArray, List.getElem_cons_succ, List.getElem_cons_zero, List.setIfInBounds_toArray, List.set_cons_zero, List.set_cons_succ]
          refine wpAnyH_take (i := 5) (v := .pointer (some ⟨b, off + k * 6, none⟩)) rfl (by kernel_rfl) (by kernel_rfl) (by kernel_rfl) (fun _ _ _ h => h) (Or.inl ⟨by rfl, ?_⟩) hHeld ?_
          · intro w' hSw; subst hSw; go_simp <;> omega
          try simp only [Act.put, List.getElem_toArray, List.getElem_cons_succ, List.getElem_cons_zero, List.setIfInBounds_toArray, List.set_cons_zero, List.set_cons_succ]
          refine wpAnyH_take (i := 6) (v := .pointer (some ⟨b, off + k * 6, none⟩)) rfl (by kernel_rfl) (by kernel_rfl) (by kernel_rfl) (fun _ _ _ h => h) (Or.inl ⟨by rfl, ?_⟩) hHeld ?_
          · intro w' hSw; subst hSw; go_simp <;> omega
          try simp only [Act.put, List.getElem_toArray, List.getElem_cons_succ, List.getElem_cons_zero, List.setIfInBounds_toArray, List.set_cons_zero, List.set_cons_succ]
          refine wpAnyH_take (i := 7) (v := .int .i64 xe) rfl (by kernel_rfl) (by kernel_rfl) (by kernel_rfl) (fun _ _ _ h => h) (Or.inl ⟨by rfl, ?_⟩) hHeld ?_
          · intro w' hSw; subst hSw; have kx := h0; go_simp
          try simp only [Act.put, List.getElem_toArray, List.getElem_cons_succ, List.getElem_cons_zero, List.setIfInBounds_toArray, List.set_cons_zero, List.set_cons_succ]
          refine wpAnyH_take (i := 8) (v := .slice (some ⟨b, off, none⟩) l.length cv) rfl (by kernel_rfl) (by kernel_rfl) (by kernel_rfl) (fun _ _ _ h => h) (Or.inl ⟨by rfl, ?_⟩) hHeld ?_
          · intro w' hSw; subst hSw; go_simp <;> omega
          try simp only [Act.put, List.getElem_toArray, List.getElem_cons_succ, List.getElem_cons_zero, List.setIfInBounds_toArray, List.set_cons_zero, List.set_cons_succ]
          refine wpAnyH_take (i := 9) (v := .int .i64 ((k : Int))) rfl (by kernel_rfl) (by kernel_rfl) (by kernel_rfl) (fun _ _ _ h => h) (Or.inl ⟨by rfl, ?_⟩) hHeld ?_
          · intro w' hSw; subst hSw; go_simp <;> omega
          try simp only [Act.put, List.getElem_toArray, List.getElem_cons_succ, List.getElem_cons_zero, List.setIfInBounds_toArray, List.set_cons_zero, List.set_cons_succ]
          refine wpAnyH_take (i := 10) (v := .int .i64 ((m : Int))) rfl (by kernel_rfl) (by kernel_rfl) (by kernel_rfl) (fun _ _ _ h => h) (Or.inl ⟨by rfl, ?_⟩) hHeld ?_
          · intro w' hSw; subst hSw; go_simp <;> omega
          try simp only [Act.put, List.getElem_toArray, List.getElem_cons_succ, List.getElem_cons_zero, List.setIfInBounds_toArray, List.set_cons_zero, List.set_cons_succ]
          refine wpAnyH_take (i := 11) (v := .pointer (some ⟨b, off + m * 6, none⟩)) rfl (by kernel_rfl) (by kernel_rfl) (by kernel_rfl) (fun _ _ _ h => h) (Or.inl ⟨by rfl, ?_⟩) hHeld ?_
          · intro w' hSw; subst hSw; go_simp <;> omega
          try simp only [Act.put, List.getElem_toArray, List.getElem_cons_succ, List.getElem_cons_zero, List.setIfInBounds_toArray, List.set_cons_zero, List.set_cons_succ]
          refine wpAnyH_take (i := 12) (v := .pointer (some ⟨b, off + m * 6, none⟩)) rfl (by kernel_rfl) (by kernel_rfl) (by kernel_rfl) (fun _ _ _ h => h) (Or.inl ⟨by rfl, ?_⟩) hHeld ?_
          · intro w' hSw; subst hSw; go_simp <;> omega
          try simp only [Act.put, List.getElem_toArray, List.getElem_cons_succ, List.getElem_cons_zero, List.setIfInBounds_toArray, List.set_cons_zero, List.set_cons_succ]
          refine wpAnyH_take (i := 13) (v := .int .i64 pe) rfl (by kernel_rfl) (by kernel_rfl) (by kernel_rfl) (fun _ _ _ h => h) (Or.inl ⟨by rfl, ?_⟩) hHeld ?_
          · intro w' hSw; subst hSw; have kx := g0; go_simp
          try simp only [Act.put, List.getElem_toArray, List.getElem_cons_succ, List.getElem_cons_zero, List.setIfInBounds_toArray, List.set_cons_zero, List.set_cons_succ]
          refine wpAnyH_take (i := 14) (v := .bool false) rfl (by kernel_rfl) (by kernel_rfl) (by kernel_rfl) (fun _ _ _ h => h) (Or.inl ⟨by rfl, ?_⟩) hHeld ?_
          · intro w' hSw; subst hSw; go_simp <;> omega
          try simp only [Act.put, List.getElem_toArray, List.getElem_cons_succ, List.getElem_cons_zero, List.setIfInBounds_toArray, List.set_cons_zero, List.set_cons_succ]
          refine wpAnyH_take (i := 15) (v := .bool false) rfl (by kernel_rfl) (by kernel_rfl) (by kernel_rfl) (fun _ _ _ h => h) (Or.inl ⟨by rfl, ?_⟩) hHeld ?_
          · intro w' hSw; subst hSw; go_simp <;> omega
          try simp only [Act.put, List.getElem_toArray, List.getElem_cons_succ, List.getElem_cons_zero, List.setIfInBounds_toArray, List.set_cons_zero, List.set_cons_succ]
          refine wpAnyH_done (by kernel_rfl) ?_ _
          clear hHeld
          have HFo := Lib.hid hfo
          clear hfo
          go_wp2_with fail
          refine Made_any lo hi l _ xe _ (Sl.below Hv.out ftE_loc HB.out.drew hhi) (by show hi ≤ wo.heap.size; omega) hlen _ (fun w5 hB5 => ?_)
          have HB5 := Lib.hid (HB.out.drew.trans (hB5.mono hz))
          have Ho5 := Lib.hid (Own.kept (w := wo.drew) (Own.same Ho.out (fun _ _ => rfl)) hB5)
          have hz5 := HB5.out.size
          clear hB5
          cases hm : madeR l xe
          · have Hto2 : Hid (builtinL ++ ofTo l (k + 1) = X) := Lib.hid (by rw [HX.out, ofTo_succ, HFo.out, hm]; simp)
            rw [show (none : Option Attr).isSome = false from rfl]
            rw [show (none : Option Attr).getD zeroA = zeroA from rfl]
            have HB6 := Lib.hid (HB5.out.alloc hz5 (.cells #[.int .i64 zeroA.id, .string ⟨zeroA.name.toArray⟩, .int .i64 zeroA.type, .bool zeroA.many, .int .i64 zeroA.unique, .bool zeroA.part, .bool zeroA.index] 24))
            have Ho6 := Lib.hid (Own.kept Ho5.out (alloc_below w5 (.cells #[.int .i64 zeroA.id, .string ⟨zeroA.name.toArray⟩, .int .i64 zeroA.type, .bool zeroA.many, .int .i64 zeroA.unique, .bool zeroA.part, .bool zeroA.index] 24)))
            clear hm
            go_wp2_with fail
            go_roundw
            case rel => exact ⟨k + 1, by omega, by go_num, by rw [Hto2.out]; exact Ho6.out, HB6.out⟩
            case measure => simp [intOf]; omega
          · rename_i at5
            obtain ⟨aid, aname, atype, amany, aunique, apart, aindex⟩ := at5
            have Hto2 : Hid (builtinL ++ ofTo l (k + 1) = X ++ [⟨aid, aname, atype, amany, aunique, apart, aindex⟩]) := Lib.hid (by rw [HX.out, ofTo_succ, HFo.out, hm]; simp)
            have HB6 := Lib.hid (HB5.out.alloc hz5 (.cells #[.int .i64 aid, .string ⟨aname.toArray⟩, .int .i64 atype, .bool amany, .int .i64 aunique, .bool apart, .bool aindex] 24))
            have Ho6 := Lib.hid (Own.kept Ho5.out (alloc_below w5 (.cells #[.int .i64 aid, .string ⟨aname.toArray⟩, .int .i64 atype, .bool amany, .int .i64 aunique, .bool apart, .bool aindex] 24)))
            have hs6 : (w5.alloc (.cells #[.int .i64 aid, .string ⟨aname.toArray⟩, .int .i64 atype, .bool amany, .int .i64 aunique, .bool apart, .bool aindex] 24)).heap.size = w5.heap.size + 1 := by simp
            have hb6 := Blk.new w5 [.int .i64 aid, .string ⟨aname.toArray⟩, .int .i64 atype, .bool amany, .int .i64 aunique, .bool apart, .bool aindex] 24 rfl
            clear hm
            go_upto_region 10 with fail
            generalize w5.alloc (.cells #[.int .i64 aid, .string ⟨aname.toArray⟩, .int .i64 atype, .bool amany, .int .i64 aunique, .bool apart, .bool aindex] 24) = w6 at *
            obtain ⟨y0, y1, y2, y3, y4, y5, y6⟩ := hb6.cells.c7
            obtain ⟨v8, w8, hr8, ho8, ha8⟩ := appA1 Ho6.out ⟨aid, aname, atype, amany, aunique, apart, aindex⟩ (n := w5.heap.size + 1) hs6.symm (by omega) (by omega)
            have Ho8 := Lib.hid ho8
            have HB8 := Lib.hid (HB6.out.trans (ha8.below (B := w.heap.size) (by omega) (fun z hz => (Own.lt Ho6.out z hz).1)))
            clear ho8 ha8 hb6
            go_wp2_with (at_builtin; refine AtApp.of ?_)
            refine AtApp.go hr8 rfl rfl rfl rfl ?_
            clear hr8
            go_wp2_with fail
            go_roundw
            case rel => exact ⟨k + 1, by omega, by go_num, by rw [Hto2.out]; exact Ho8.out, HB8.out⟩
            case measure => simp [intOf]; omega
      · have hfo : firstO l k = madeR l l[k].e := by
          unfold firstO
          rw [if_neg (fun h => hk0 h.1), hxe]
        have k0 : (k : Int) ≤ 0 := by omega
        clear hcc hxe
        generalize l[k].e = xe at *
        go_upto_region 8 with fail
        refine wp_region_held_drew (S := fun w' => w' = wo.drew) (by kernel_rfl) rfl (fun hHeld => ?_)
        refine wpAnyH_take (i := 0) (v := .int .i64 ((k : Int))) rfl (by kernel_rfl) (by kernel_rfl) (by kernel_rfl) (fun _ _ _ h => h) (Or.inl ⟨by rfl, ?_⟩) hHeld ?_
        · intro w' hSw; subst hSw; go_simp <;> omega
        try simp only [Act.put, List.getElem_toArray, List.getElem_cons_succ, List.getElem_cons_zero, List.setIfInBounds_toArray, List.set_cons_zero, List.set_cons_succ]
        refine wpAnyH_take (i := 1) (v := .bool false) rfl (by kernel_rfl) (by kernel_rfl) (by kernel_rfl) (fun _ _ _ h => h) (Or.inl ⟨by rfl, ?_⟩) hHeld ?_
        · intro w' hSw; subst hSw; go_simp <;> omega
        try simp only [Act.put, List.getElem_toArray, List.getElem_cons_succ, List.getElem_cons_zero, List.setIfInBounds_toArray, List.set_cons_zero, List.set_cons_succ]
        refine wpAnyH_take (i := 2) (v := .bool false) rfl (by kernel_rfl) (by kernel_rfl) (by kernel_rfl) (fun _ _ _ h => h) (Or.inl ⟨by rfl, ?_⟩) hHeld ?_
        · intro w' hSw; subst hSw; go_simp <;> omega
        try simp only [Act.put, List.getElem_toArray, List.getElem_cons_succ, List.getElem_cons_zero, List.setIfInBounds_toArray, List.set_cons_zero, List.set_cons_succ]
        refine wpAnyH_take (i := 3) (v := undef) rfl (by kernel_rfl) (by kernel_rfl) (by kernel_rfl) (fun _ _ _ h => h) (Or.inr ⟨by kernel_rfl, rfl⟩) hHeld ?_
        try simp only [Act.put, List.getElem_toArray, List.getElem_cons_succ, List.getElem_cons_zero, List.setIfInBounds_toArray, List.set_cons_zero, List.set_cons_succ]
        refine wpAnyH_take (i := 4) (v := undef) rfl (by kernel_rfl) (by kernel_rfl) (by kernel_rfl) (fun _ _ _ h => h) (Or.inr ⟨by kernel_rfl, rfl⟩) hHeld ?_
        try simp only [Act.put, List.getElem_toArray, List.getElem_cons_succ, List.getElem_cons_zero, List.setIfInBounds_toArray, List.set_cons_zero, List.set_cons_succ]
        refine wpAnyH_take (i := 5) (v := undef) rfl (by kernel_rfl) (by kernel_rfl) (by kernel_rfl) (fun _ _ _ h => h) (Or.inr ⟨by kernel_rfl, rfl⟩) hHeld ?_
        try simp only [Act.put, List.getElem_toArray, List.getElem_cons_succ, List.getElem_cons_zero, List.setIfInBounds_toArray, List.set_cons_zero, List.set_cons_succ]
        refine wpAnyH_take (i := 6) (v := undef) rfl (by kernel_rfl) (by kernel_rfl) (by kernel_rfl) (fun _ _ _ h => h) (Or.inr ⟨by kernel_rfl, rfl⟩) hHeld ?_
        try simp only [Act.put, List.getElem_toArray, List.getElem_cons_succ, List.getElem_cons_zero, List.setIfInBounds_toArray, List.set_cons_zero, List.set_cons_succ]
        refine wpAnyH_take (i := 7) (v := undef) rfl (by kernel_rfl) (by kernel_rfl) (by kernel_rfl) (fun _ _ _ h => h) (Or.inr ⟨by kernel_rfl, rfl⟩) hHeld ?_
        try simp only [Act.put, List.getElem_toArray, List.getElem_cons_succ, List.getElem_cons_zero, List.setIfInBounds_toArray, List.set_cons_zero, List.set_cons_succ]
        refine wpAnyH_take (i := 8) (v := undef) rfl (by kernel_rfl) (by kernel_rfl) (by kernel_rfl) (fun _ _ _ h => h) (Or.inr ⟨by kernel_rfl, rfl⟩) hHeld ?_
        try simp only [Act.put, List.getElem_toArray, List.getElem_cons_succ, List.getElem_cons_zero, List.setIfInBounds_toArray, List.set_cons_zero, List.set_cons_succ]
        refine wpAnyH_take (i := 9) (v := undef) rfl (by kernel_rfl) (by kernel_rfl) (by kernel_rfl) (fun _ _ _ h => h) (Or.inr ⟨by kernel_rfl, rfl⟩) hHeld ?_
        try simp only [Act.put, List.getElem_toArray, List.getElem_cons_succ, List.getElem_cons_zero, List.setIfInBounds_toArray, List.set_cons_zero, List.set_cons_succ]
        refine wpAnyH_take (i := 10) (v := undef) rfl (by kernel_rfl) (by kernel_rfl) (by kernel_rfl) (fun _ _ _ h => h) (Or.inr ⟨by kernel_rfl, rfl⟩) hHeld ?_
        try simp only [Act.put, List.getElem_toArray, List.getElem_cons_succ, List.getElem_cons_zero, List.setIfInBounds_toArray, List.set_cons_zero, List.set_cons_succ]
        refine wpAnyH_take (i := 11) (v := undef) rfl (by kernel_rfl) (by kernel_rfl) (by kernel_rfl) (fun _ _ _ h => h) (Or.inr ⟨by kernel_rfl, rfl⟩) hHeld ?_
        try simp only [Act.put, List.getElem_toArray, List.getElem_cons_succ, List.getElem_cons_zero, List.setIfInBounds_toArray, List.set_cons_zero, List.set_cons_succ]
        refine wpAnyH_take (i := 12) (v := undef) rfl (by kernel_rfl) (by kernel_rfl) (by kernel_rfl) (fun _ _ _ h => h) (Or.inr ⟨by kernel_rfl, rfl⟩) hHeld ?_
        try simp only [Act.put, List.getElem_toArray, List.getElem_cons_succ, List.getElem_cons_zero, List.setIfInBounds_toArray, List.set_cons_zero, List.set_cons_succ]
        refine wpAnyH_take (i := 13) (v := undef) rfl (by kernel_rfl) (by kernel_rfl) (by kernel_rfl) (fun _ _ _ h => h) (Or.inr ⟨by kernel_rfl, rfl⟩) hHeld ?_
        try simp only [Act.put, List.getElem_toArray, List.getElem_cons_succ, List.getElem_cons_zero, List.setIfInBounds_toArray, List.set_cons_zero, List.set_cons_succ]
        refine wpAnyH_take (i := 14) (v := undef) rfl (by kernel_rfl) (by kernel_rfl) (by kernel_rfl) (fun _ _ _ h => h) (Or.inr ⟨by kernel_rfl, rfl⟩) hHeld ?_
        try simp only [Act.put, List.getElem_toArray, List.getElem_cons_succ, List.getElem_cons_zero, List.setIfInBounds_toArray, List.set_cons_zero, List.set_cons_succ]
        refine wpAnyH_take (i := 15) (v := .bool false) rfl (by kernel_rfl) (by kernel_rfl) (by kernel_rfl) (fun _ _ _ h => h) (Or.inl ⟨by rfl, ?_⟩) hHeld ?_
        · intro w' hSw; subst hSw; go_simp <;> omega
        try simp only [Act.put, List.getElem_toArray, List.getElem_cons_succ, List.getElem_cons_zero, List.setIfInBounds_toArray, List.set_cons_zero, List.set_cons_succ]
        refine wpAnyH_done (by kernel_rfl) ?_ _
        clear hHeld
        have HFo := Lib.hid hfo
        clear hfo
        go_wp2_with fail
        refine Made_any lo hi l _ xe _ (Sl.below Hv.out ftE_loc HB.out.drew hhi) (by show hi ≤ wo.heap.size; omega) hlen _ (fun w5 hB5 => ?_)
        have HB5 := Lib.hid (HB.out.drew.trans (hB5.mono hz))
        have Ho5 := Lib.hid (Own.kept (w := wo.drew) (Own.same Ho.out (fun _ _ => rfl)) hB5)
        have hz5 := HB5.out.size
        clear hB5
        cases hm : madeR l xe
        · have Hto2 : Hid (builtinL ++ ofTo l (k + 1) = X) := Lib.hid (by rw [HX.out, ofTo_succ, HFo.out, hm]; simp)
          rw [show (none : Option Attr).isSome = false from rfl]
          rw [show (none : Option Attr).getD zeroA = zeroA from rfl]
          have HB6 := Lib.hid (HB5.out.alloc hz5 (.cells #[.int .i64 zeroA.id, .string ⟨zeroA.name.toArray⟩, .int .i64 zeroA.type, .bool zeroA.many, .int .i64 zeroA.unique, .bool zeroA.part, .bool zeroA.index] 24))
          have Ho6 := Lib.hid (Own.kept Ho5.out (alloc_below w5 (.cells #[.int .i64 zeroA.id, .string ⟨zeroA.name.toArray⟩, .int .i64 zeroA.type, .bool zeroA.many, .int .i64 zeroA.unique, .bool zeroA.part, .bool zeroA.index] 24)))
          clear hm
          go_wp2_with fail
          go_roundw
          case rel => exact ⟨k + 1, by omega, by go_num, by rw [Hto2.out]; exact Ho6.out, HB6.out⟩
          case measure => simp [intOf]; omega
        · rename_i at5
          obtain ⟨aid, aname, atype, amany, aunique, apart, aindex⟩ := at5
          have Hto2 : Hid (builtinL ++ ofTo l (k + 1) = X ++ [⟨aid, aname, atype, amany, aunique, apart, aindex⟩]) := Lib.hid (by rw [HX.out, ofTo_succ, HFo.out, hm]; simp)
          have HB6 := Lib.hid (HB5.out.alloc hz5 (.cells #[.int .i64 aid, .string ⟨aname.toArray⟩, .int .i64 atype, .bool amany, .int .i64 aunique, .bool apart, .bool aindex] 24))
          have Ho6 := Lib.hid (Own.kept Ho5.out (alloc_below w5 (.cells #[.int .i64 aid, .string ⟨aname.toArray⟩, .int .i64 atype, .bool amany, .int .i64 aunique, .bool apart, .bool aindex] 24)))
          have hs6 : (w5.alloc (.cells #[.int .i64 aid, .string ⟨aname.toArray⟩, .int .i64 atype, .bool amany, .int .i64 aunique, .bool apart, .bool aindex] 24)).heap.size = w5.heap.size + 1 := by simp
          have hb6 := Blk.new w5 [.int .i64 aid, .string ⟨aname.toArray⟩, .int .i64 atype, .bool amany, .int .i64 aunique, .bool apart, .bool aindex] 24 rfl
          clear hm
          go_upto_region 10 with fail
          generalize w5.alloc (.cells #[.int .i64 aid, .string ⟨aname.toArray⟩, .int .i64 atype, .bool amany, .int .i64 aunique, .bool apart, .bool aindex] 24) = w6 at *
          obtain ⟨y0, y1, y2, y3, y4, y5, y6⟩ := hb6.cells.c7
          obtain ⟨v8, w8, hr8, ho8, ha8⟩ := appA1 Ho6.out ⟨aid, aname, atype, amany, aunique, apart, aindex⟩ (n := w5.heap.size + 1) hs6.symm (by omega) (by omega)
          have Ho8 := Lib.hid ho8
          have HB8 := Lib.hid (HB6.out.trans (ha8.below (B := w.heap.size) (by omega) (fun z hz => (Own.lt Ho6.out z hz).1)))
          clear ho8 ha8 hb6
          go_wp2_with (at_builtin; refine AtApp.of ?_)
          refine AtApp.go hr8 rfl rfl rfl rfl ?_
          clear hr8
          go_wp2_with fail
          go_roundw
          case rel => exact ⟨k + 1, by omega, by go_num, by rw [Hto2.out]; exact Ho8.out, HB8.out⟩
          case measure => simp [intOf]; omega
    · obtain rfl : k = l.length := by omega
      have hXc := attrsOf_count l
      have hXd : ofErr l = if twiceB (attrsOf l) then 70 else 0 := by unfold ofErr; rw [Hok.out, if_pos rfl]
      have hXe : builtinL ++ ofTo l l.length = attrsOf l := rfl
      rw [hXe] at ho
      have hXn : attrsOf l ≠ [] := by unfold attrsOf; simp [builtinL]
      have hXa : ofAttrs l = if ofErr l = 0 then attrsOf l else [] := rfl
      generalize attrsOf l = X at *
      obtain ⟨g, c5, rfl, -, -, -, -, -, -⟩ := Own.form ho hXn
      have Ho := Lib.hid ho
      have HXd := Lib.hid hXd
      have HXa := Lib.hid hXa
      clear ho hB hXd hXe hXn hXa Ho2
      go_wp2_with fail
      go_loopw [9, 10] (fun t9 _ wr => ∃ i : Nat, i ≤ X.length ∧ t9 = .int .i64 i ∧ (∀ j, j < i → seenN X j (X.getD j default).name = false) ∧ OwnA w.heap.size wr (.slice (some ⟨g, 0, none⟩) X.length c5) X ∧ Below w.heap.size w wr) (fun t9 _ _ => X.length - (intOf t9).toNat)
      case atStart => exact ⟨0, Nat.zero_le _, rfl, fun j h => absurd h (Nat.not_lt_zero _), Ho.out, HB.out⟩
      case round =>
        obtain ⟨i, hi1, rfl, hnd, hoi, hBi⟩ := hrel
        obtain ⟨wj, ewj⟩ : ∃ x, x = wr := ⟨_, rfl⟩
        subst ewj
        have Hnd := Lib.hid hnd
        have Hoi := Lib.hid hoi
        have HBi := Lib.hid hBi
        have ii0 : (0 : Int) ≤ (i : Int) := by omega
        clear hnd hoi hBi
        by_cases hiX : i < X.length
        · have iil : (i : Int) < (X.length : Int) := by omega
          have hxi : X.getD i default = X[i] := getD_at X _ i hiX
          have Hxi := Lib.hid hxi
          clear hxi
          go_upto_region 15 with fail
          go_wp2_with fail
          go_loopw [10] (fun t10 wr => ∃ k : Nat, k ≤ i ∧ t10 = .int .i64 k ∧ seenN X k X[i].name = false ∧ OwnA w.heap.size wr (.slice (some ⟨g, 0, none⟩) X.length c5) X ∧ Below w.heap.size w wr) (fun t10 _ => i - (intOf t10).toNat)
          case atStart => exact ⟨0, Nat.zero_le _, rfl, rfl, Hoi.out, HBi.out⟩
          case round =>
            obtain ⟨k, hk1, rfl, hns, hok2, hBk⟩ := hrel
            obtain ⟨wi, ewi⟩ : ∃ x, x = wr := ⟨_, rfl⟩
            subst ewi
            have Hns := Lib.hid hns
            have Hok2 := Lib.hid hok2
            have HBk := Lib.hid hBk
            have kk0 : (0 : Int) ≤ (k : Int) := by omega
            clear hns hBk
            by_cases hki : k < i
            · have kki : (k : Int) < (i : Int) := by omega
              have kkl : (k : Int) < (X.length : Int) := by omega
              obtain ⟨ax, cx, ex, -, -, -, hcx⟩ := (OwnA.attrs hok2).form
              injection ex with ex _ ex3
              subst ex ex3
              obtain ⟨g2, o2, eg, -, -, hce⟩ := hcx i hiX
              injection eg with eg
              injection eg with eg eo
              subst eg eo
              obtain ⟨cs1, _, hcs1, rfl⟩ := hce i hiX
              obtain ⟨cs2, _, hcs2, rfl⟩ := hce k (by omega)
              obtain ⟨-, hi1', -⟩ := hcs1.c7
              obtain ⟨-, hk1', -⟩ := hcs2.c7
              rw [Nat.zero_add] at hi1' hk1'
              have hi1 := hi1'
              have hk1 := hk1'
              have Hst := Lib.hid (seenN_succ X k (show k < X.length by omega) X[i].name)
              have Hyes : Hid (X[k].name = X[i].name → twiceB X = true) := Lib.hid (fun e => twice_yes hiX (by
                rw [Hxi.out]
                unfold seenN
                rw [List.contains_eq_mem, decide_eq_true_eq]
                exact List.mem_map.2 ⟨X[k], by rw [List.mem_iff_getElem]; exact ⟨k, by rw [List.length_take]; omega, by rw [List.getElem_take]⟩, e⟩))
              clear hcs1 hcs2 hce hcx hok2 hi1' hk1'
              generalize X[i].name = xa at *
              generalize X[k].name = xb at *
              by_cases hab : xa = xb
              · have htw := Hyes.out hab.symm
                have he : ofErr l = 70 := by rw [HXd.out, htw]; rfl
                have hr := HR.out wi.drew (.slice none 0 0) HBk.out.drew (by rw [HXa.out, he, if_neg (by decide)]; exact Own.nil _ _ _ _ _)
                rw [he] at hr
                clear he htw
                go_upto_region 18 with fail
                refine wp_region_held_drew (S := fun w' => w' = wi.drew) (by kernel_rfl) rfl (fun hHeld => ?_)
                refine wpAnyH_take (i := 0) (v := .slice (some ⟨g, 0, none⟩) X.length c5) rfl (by kernel_rfl) (by kernel_rfl) (by kernel_rfl) (fun _ _ _ h => h) (Or.inl ⟨by rfl, ?_⟩) hHeld ?_
                · intro w' hSw; subst hSw; go_simp <;> omega
                try simp only [Act.put, List.getElem_toArray, List.getElem_cons_succ, List.getElem_cons_zero, List.setIfInBounds_toArray, List.set_cons_zero, List.set_cons_succ]
                refine wpAnyH_take (i := 1) (v := .int .i64 ((i : Int))) rfl (by kernel_rfl) (by kernel_rfl) (by kernel_rfl) (fun _ _ _ h => h) (Or.inl ⟨by rfl, ?_⟩) hHeld ?_
                · intro w' hSw; subst hSw; go_simp <;> omega
                try simp only [Act.put, List.getElem_toArray, List.getElem_cons_succ, List.getElem_cons_zero, List.setIfInBounds_toArray, List.set_cons_zero, List.set_cons_succ]
                refine wpAnyH_take (i := 2) (v := .pointer (some ⟨g, i * 7, none⟩)) rfl (by kernel_rfl) (by kernel_rfl) (by kernel_rfl) (fun _ _ _ h => h) (Or.inl ⟨by rfl, ?_⟩) hHeld ?_
                · intro w' hSw; subst hSw; go_simp <;> omega
                try simp only [Act.put, List.getElem_toArray, List.getElem_cons_succ, List.getElem_cons_zero, List.setIfInBounds_toArray, List.set_cons_zero, List.set_cons_succ]
                refine wpAnyH_take (i := 3) (v := .pointer (some ⟨g, i * 7 + 1, none⟩)) rfl (by kernel_rfl) (by kernel_rfl) (by kernel_rfl) (fun _ _ _ h => h) (Or.inl ⟨by rfl, ?_⟩) hHeld ?_
                · intro w' hSw; subst hSw; go_simp <;> omega
                try simp only [Act.put, List.getElem_toArray, List.getElem_cons_succ, List.getElem_cons_zero, List.setIfInBounds_toArray, List.set_cons_zero, List.set_cons_succ]
                refine wpAnyH_take (i := 4) (v := .string ⟨xa.toArray⟩) rfl (by kernel_rfl) (by kernel_rfl) (by kernel_rfl) (fun _ _ _ h => h) (Or.inl ⟨by rfl, ?_⟩) hHeld ?_
                · intro w' hSw; subst hSw; have kx := hi1; go_simp
                try simp only [Act.put, List.getElem_toArray, List.getElem_cons_succ, List.getElem_cons_zero, List.setIfInBounds_toArray, List.set_cons_zero, List.set_cons_succ]
                refine wpAnyH_take (i := 5) (v := .slice (some ⟨g, 0, none⟩) X.length c5) rfl (by kernel_rfl) (by kernel_rfl) (by kernel_rfl) (fun _ _ _ h => h) (Or.inl ⟨by rfl, ?_⟩) hHeld ?_
                · intro w' hSw; subst hSw; go_simp <;> omega
                try simp only [Act.put, List.getElem_toArray, List.getElem_cons_succ, List.getElem_cons_zero, List.setIfInBounds_toArray, List.set_cons_zero, List.set_cons_succ]
                refine wpAnyH_take (i := 6) (v := .int .i64 ((k : Int))) rfl (by kernel_rfl) (by kernel_rfl) (by kernel_rfl) (fun _ _ _ h => h) (Or.inl ⟨by rfl, ?_⟩) hHeld ?_
                · intro w' hSw; subst hSw; go_simp <;> omega
                try simp only [Act.put, List.getElem_toArray, List.getElem_cons_succ, List.getElem_cons_zero, List.setIfInBounds_toArray, List.set_cons_zero, List.set_cons_succ]
                refine wpAnyH_take (i := 7) (v := .pointer (some ⟨g, k * 7, none⟩)) rfl (by kernel_rfl) (by kernel_rfl) (by kernel_rfl) (fun _ _ _ h => h) (Or.inl ⟨by rfl, ?_⟩) hHeld ?_
                · intro w' hSw; subst hSw; go_simp <;> omega
                try simp only [Act.put, List.getElem_toArray, List.getElem_cons_succ, List.getElem_cons_zero, List.setIfInBounds_toArray, List.set_cons_zero, List.set_cons_succ]
                refine wpAnyH_take (i := 8) (v := .pointer (some ⟨g, k * 7 + 1, none⟩)) rfl (by kernel_rfl) (by kernel_rfl) (by kernel_rfl) (fun _ _ _ h => h) (Or.inl ⟨by rfl, ?_⟩) hHeld ?_
                · intro w' hSw; subst hSw; go_simp <;> omega
                try simp only [Act.put, List.getElem_toArray, List.getElem_cons_succ, List.getElem_cons_zero, List.setIfInBounds_toArray, List.set_cons_zero, List.set_cons_succ]
                refine wpAnyH_take (i := 9) (v := .string ⟨xb.toArray⟩) rfl (by kernel_rfl) (by kernel_rfl) (by kernel_rfl) (fun _ _ _ h => h) (Or.inl ⟨by rfl, ?_⟩) hHeld ?_
                · intro w' hSw; subst hSw; have kx := hk1; go_simp
                try simp only [Act.put, List.getElem_toArray, List.getElem_cons_succ, List.getElem_cons_zero, List.setIfInBounds_toArray, List.set_cons_zero, List.set_cons_succ]
                refine wpAnyH_take (i := 10) (v := .bool true) rfl (by kernel_rfl) (by kernel_rfl) (by kernel_rfl) (fun _ _ _ h => h) (Or.inl ⟨by rfl, ?_⟩) hHeld ?_
                · intro w' hSw; subst hSw; go_simp <;> first | omega | exact hab | (simpa using hab)
                try simp only [Act.put, List.getElem_toArray, List.getElem_cons_succ, List.getElem_cons_zero, List.setIfInBounds_toArray, List.set_cons_zero, List.set_cons_succ]
                refine wpAnyH_done (by kernel_rfl) ?_ _
                clear hHeld
                go_wp2_with fail
                first | exact hr | exact fin hr rfl
              · have hab2 : (xa == xb) = false := by simpa using hab
                go_upto_region 18 with fail
                refine wp_region_held_drew (S := fun w' => w' = wi.drew) (by kernel_rfl) rfl (fun hHeld => ?_)
                refine wpAnyH_take (i := 0) (v := .slice (some ⟨g, 0, none⟩) X.length c5) rfl (by kernel_rfl) (by kernel_rfl) (by kernel_rfl) (fun _ _ _ h => h) (Or.inl ⟨by rfl, ?_⟩) hHeld ?_
                · intro w' hSw; subst hSw; go_simp <;> omega
                try simp only [Act.put, List.getElem_toArray, List.getElem_cons_succ, List.getElem_cons_zero, List.setIfInBounds_toArray, List.set_cons_zero, List.set_cons_succ]
                refine wpAnyH_take (i := 1) (v := .int .i64 ((i : Int))) rfl (by kernel_rfl) (by kernel_rfl) (by kernel_rfl) (fun _ _ _ h => h) (Or.inl ⟨by rfl, ?_⟩) hHeld ?_
                · intro w' hSw; subst hSw; go_simp <;> omega
                try simp only [Act.put, List.getElem_toArray, List.getElem_cons_succ, List.getElem_cons_zero, List.setIfInBounds_toArray, List.set_cons_zero, List.set_cons_succ]
                refine wpAnyH_take (i := 2) (v := .pointer (some ⟨g, i * 7, none⟩)) rfl (by kernel_rfl) (by kernel_rfl) (by kernel_rfl) (fun _ _ _ h => h) (Or.inl ⟨by rfl, ?_⟩) hHeld ?_
                · intro w' hSw; subst hSw; go_simp <;> omega
                try simp only [Act.put, List.getElem_toArray, List.getElem_cons_succ, List.getElem_cons_zero, List.setIfInBounds_toArray, List.set_cons_zero, List.set_cons_succ]
                refine wpAnyH_take (i := 3) (v := .pointer (some ⟨g, i * 7 + 1, none⟩)) rfl (by kernel_rfl) (by kernel_rfl) (by kernel_rfl) (fun _ _ _ h => h) (Or.inl ⟨by rfl, ?_⟩) hHeld ?_
                · intro w' hSw; subst hSw; go_simp <;> omega
                try simp only [Act.put, List.getElem_toArray, List.getElem_cons_succ, List.getElem_cons_zero, List.setIfInBounds_toArray, List.set_cons_zero, List.set_cons_succ]
                refine wpAnyH_take (i := 4) (v := .string ⟨xa.toArray⟩) rfl (by kernel_rfl) (by kernel_rfl) (by kernel_rfl) (fun _ _ _ h => h) (Or.inl ⟨by rfl, ?_⟩) hHeld ?_
                · intro w' hSw; subst hSw; have kx := hi1; go_simp
                try simp only [Act.put, List.getElem_toArray, List.getElem_cons_succ, List.getElem_cons_zero, List.setIfInBounds_toArray, List.set_cons_zero, List.set_cons_succ]
                refine wpAnyH_take (i := 5) (v := .slice (some ⟨g, 0, none⟩) X.length c5) rfl (by kernel_rfl) (by kernel_rfl) (by kernel_rfl) (fun _ _ _ h => h) (Or.inl ⟨by rfl, ?_⟩) hHeld ?_
                · intro w' hSw; subst hSw; go_simp <;> omega
                try simp only [Act.put, List.getElem_toArray, List.getElem_cons_succ, List.getElem_cons_zero, List.setIfInBounds_toArray, List.set_cons_zero, List.set_cons_succ]
                refine wpAnyH_take (i := 6) (v := .int .i64 ((k : Int))) rfl (by kernel_rfl) (by kernel_rfl) (by kernel_rfl) (fun _ _ _ h => h) (Or.inl ⟨by rfl, ?_⟩) hHeld ?_
                · intro w' hSw; subst hSw; go_simp <;> omega
                try simp only [Act.put, List.getElem_toArray, List.getElem_cons_succ, List.getElem_cons_zero, List.setIfInBounds_toArray, List.set_cons_zero, List.set_cons_succ]
                refine wpAnyH_take (i := 7) (v := .pointer (some ⟨g, k * 7, none⟩)) rfl (by kernel_rfl) (by kernel_rfl) (by kernel_rfl) (fun _ _ _ h => h) (Or.inl ⟨by rfl, ?_⟩) hHeld ?_
                · intro w' hSw; subst hSw; go_simp <;> omega
                try simp only [Act.put, List.getElem_toArray, List.getElem_cons_succ, List.getElem_cons_zero, List.setIfInBounds_toArray, List.set_cons_zero, List.set_cons_succ]
                refine wpAnyH_take (i := 8) (v := .pointer (some ⟨g, k * 7 + 1, none⟩)) rfl (by kernel_rfl) (by kernel_rfl) (by kernel_rfl) (fun _ _ _ h => h) (Or.inl ⟨by rfl, ?_⟩) hHeld ?_
                · intro w' hSw; subst hSw; go_simp <;> omega
                try simp only [Act.put, List.getElem_toArray, List.getElem_cons_succ, List.getElem_cons_zero, List.setIfInBounds_toArray, List.set_cons_zero, List.set_cons_succ]
                refine wpAnyH_take (i := 9) (v := .string ⟨xb.toArray⟩) rfl (by kernel_rfl) (by kernel_rfl) (by kernel_rfl) (fun _ _ _ h => h) (Or.inl ⟨by rfl, ?_⟩) hHeld ?_
                · intro w' hSw; subst hSw; have kx := hk1; go_simp
                try simp only [Act.put, List.getElem_toArray, List.getElem_cons_succ, List.getElem_cons_zero, List.setIfInBounds_toArray, List.set_cons_zero, List.set_cons_succ]
                refine wpAnyH_take (i := 10) (v := .bool false) rfl (by kernel_rfl) (by kernel_rfl) (by kernel_rfl) (fun _ _ _ h => h) (Or.inl ⟨by rfl, ?_⟩) hHeld ?_
                · intro w' hSw; subst hSw; go_simp <;> first | omega | exact hab | (simpa using hab)
                try simp only [Act.put, List.getElem_toArray, List.getElem_cons_succ, List.getElem_cons_zero, List.setIfInBounds_toArray, List.set_cons_zero, List.set_cons_succ]
                refine wpAnyH_done (by kernel_rfl) ?_ _
                clear hHeld
                go_wp2_with fail
                go_roundw
                case rel => exact ⟨k + 1, by omega, by go_num, by rw [Hst.out, Hns.out]; simpa using Ne.symm hab, Own.same (w := wi) Hok2.out (fun _ _ => rfl), HBk.out.drew⟩
                case measure => simp [intOf]; omega
            · obtain rfl : k = i := by omega
              clear hok2
              go_wp2_with fail
              go_roundw
              case rel => exact ⟨k + 1, by omega, by go_num, fun j hj => by
                by_cases e : j = k
                · subst e; rw [Hxi.out]; exact Hns.out
                · exact Hnd.out j (by omega), Hok2.out, HBk.out⟩
              case measure => simp [intOf]; omega
        · obtain rfl : i = X.length := by omega
          have he : ofErr l = 0 := by rw [HXd.out, twice_no Hnd.out]; rfl
          have hr := HR.out wj _ HBi.out (by rw [HXa.out, he, if_pos rfl]; exact Hoi.out)
          rw [he] at hr
          clear he
          go_wp2_with fail
          first | exact hr | exact fin hr rfl
end Go.Proofs.Ytkcpanaojehgiaa
