/- The document's sets: what both have. (Printed by spnf.py.) -/
import Derived.Test.YtkcpanaojehgiaaSpnE
namespace Go.Proofs.Ytkcpanaojehgiaa
open Go.RowKit
set_option linter.unusedVariables false
set_option linter.unusedSimpArgs false

theorem flat2 (L : List Sp) : (L.flatMap Sp.enc).length = L.length * 2 := by
  induction L with
  | nil => rfl
  | cons x r ih =>
    rw [List.flatMap_cons, List.length_append, ih, List.length_cons]
    simp only [Sp.enc, List.length_cons, List.length_nil]
    omega
theorem OwnS.setLast {lo g c : Nat} {w : World} {L : List Sp} {s : Sp} (h : OwnS lo w (.slice (some ⟨g, 0, none⟩) (L ++ [s]).length c) (L ++ [s])) (y : Int) {m : Nat} (hm : m = L.length) :
    OwnS lo (w.setCell ⟨g, m * 2 + 1, none⟩ (.int .i64 y)) (.slice (some ⟨g, 0, none⟩) (L ++ [(⟨s.f, y⟩ : Sp)]).length c) (L ++ [⟨s.f, y⟩]) := by
  subst hm
  have h2 := (World.ownsRow.stored h (L.length * 2 + 1) (.int .i64 y)).1
  have hl : (L.flatMap Sp.enc).length = L.length * 2 := flat2 L
  have e : ((L ++ [s]).flatMap Sp.enc).set (L.length * 2 + 1) (.int .i64 y) = (L ++ [(⟨s.f, y⟩ : Sp)]).flatMap Sp.enc := by
    rw [List.flatMap_append, List.flatMap_append, List.set_append_right _ _ (by omega), hl, show L.length * 2 + 1 - L.length * 2 = 1 by omega]
    rfl
  rw [e] at h2
  have e3 : (L ++ [s]).length = (L ++ [(⟨s.f, y⟩ : Sp)]).length := by simp
  unfold OwnS Own
  rw [← e3]
  exact h2
theorem addS_snoc (L : List Sp) (s : Sp) (x y : Int) : addS (L ++ [s]) x y = if s.t = x then L ++ [⟨s.f, y⟩] else (L ++ [s]) ++ [⟨x, y⟩] := by
  unfold addS
  simp
theorem of_step (p : Int → Bool) (out : List Sp) (E : List Int) (i : Nat) (h : i + 1 < E.length) : ofGo p out (E.drop i) = ofGo p (if p E[i] then addS out E[i] E[i + 1] else out) (E.drop (i + 1)) := by
  rw [List.drop_eq_getElem_cons (show i < E.length by omega), List.drop_eq_getElem_cons h, ofGo]
theorem of_end (p : Int → Bool) (out : List Sp) (E : List Int) (i : Nat) (h : ¬ i + 1 < E.length) : ofGo p out (E.drop i) = out := by
  rcases hd : E.drop i with _ | ⟨x, _ | ⟨y, r⟩⟩
  · rw [ofGo]; simp
  · rw [ofGo]; simp
  · exfalso
    have := congrArg List.length hd
    rw [List.length_drop] at this
    simp only [List.length_cons] at this
    omega
set_option maxRecDepth 100000 in
set_option maxHeartbeats 8000000 in
theorem both_any (lo hi : Nat) (a b : List Sp) (va vb : Value) (w : World) (hva : Spans lo hi w va a) (hvb : Spans lo hi w vb b) (hhi : hi ≤ w.heap.size) (hla : a.length ≤ 1000000000) (hlb : b.length ≤ 1000000000) (R : Ending → World → Prop)
    (hR : ∀ w' v', Below w.heap.size w w' → OwnS w.heap.size w' v' (bothL a b) → R (.returned v') w') : Calls Try.prog 25 #[va, vb, .int .i64 1] w R := by
  have HR := Lib.hid hR
  have Hva := Lib.hid hva
  have Hvb := Lib.hid hvb
  obtain ⟨aa, ca, rfl, -, -, -, -⟩ := hva.form
  obtain ⟨ab, cb, rfl, -, -, -, -⟩ := hvb.form
  clear hR hva hvb
  obtain ⟨v1, w1, hr1, ho1, ha1⟩ := appSL (lo := w.heap.size) (Own.nil Sp.enc 58 2 w.heap.size w) Hva.out (by simp; omega) (Nat.le_refl _)
  have hB1 : Below w.heap.size w w1 := ha1.below (Nat.le_refl _) (fun k e => by cases e)
  have hz1 := hB1.size
  obtain ⟨v2, w2, hr2, ho2, ha2⟩ := appSL ho1 (Sl.below Hvb.out Sp.loc hB1 hhi) (by simp; omega) hz1
  have hB2 : Below w.heap.size w w2 := hB1.trans (ha2.below hz1 (fun k e => (Own.lt ho1 k e).1))
  have hz2 := hB2.size
  rw [List.nil_append] at ho2
  obtain ⟨AB, hAB⟩ : ∃ z, z = a ++ b := ⟨_, rfl⟩
  rw [← hAB] at ho2
  have hABl : AB.length ≤ 2000000000 := by rw [hAB, List.length_append]; omega
  have HAB := Lib.hid hAB
  clear hAB
  have Ho2 := Lib.hid ho2
  have HB2 := Lib.hid hB2
  go_enter Try.func25, Try.ntmps25
  go_wp2_with (at_builtin; refine AtApp.of ?_)
  refine AtApp.go hr1 rfl rfl rfl rfl ?_
  go_wp2_with (at_builtin; refine AtApp.of ?_)
  refine AtApp.go hr2 rfl rfl rfl rfl ?_
  obtain ⟨p2, c2, rfl⟩ := Own.slice ho2
  clear hr1 hr2 ho1 ho2 ha1 ha2 hB1 hB2
  go_wp2_with fail
  refine ends_any w.heap.size w2.heap.size AB _ w2 Ho2.out.spans (Nat.le_refl _) hABl _ (fun w4 v4 hB4 ho4 => ?_)
  have HB4 := Lib.hid (HB2.out.trans (hB4.mono hz2))
  have Hsl4 := Lib.hid (OwnI.sl ho4)
  have hz4 := HB4.out.size
  have hel : (endsL AB).length ≤ 2 * AB.length := by
    rw [← endsTo_all]
    exact endsTo_len AB (2 * AB.length)
  have Hb : Hid (ofGo (fun t => inB a t && inB b t) [] ((endsL AB).drop 0) = bothL a b) := Lib.hid (by rw [HAB.out]; rfl)
  obtain ⟨p4, c4, rfl⟩ := Own.slice ho4
  clear hB4 ho4
  generalize endsL AB = E at *
  generalize bothL a b = BB at *
  go_wp2_with fail
  go_loopw [9, 10] (fun t9 t10 wr => ∃ (i : Nat) (out : List Sp), t10 = .int .i64 i ∧ i ≤ E.length ∧ OwnS w4.heap.size wr t9 out ∧ out.length ≤ i ∧ Below w4.heap.size w4 wr ∧ ofGo (fun t => inB a t && inB b t) out (E.drop i) = BB) (fun _ t10 _ => E.length - (intOf t10).toNat)
  case atStart => exact ⟨0, [], rfl, Nat.zero_le _, Own.nil _ _ _ _ _, Nat.le_refl _, Below.refl _ _, Hb.out⟩
  case round =>
    obtain ⟨i, out, rfl, hi', ho, hol, hB, heq⟩ := hrel
    obtain ⟨wo, ewo⟩ : ∃ x, x = wr := ⟨_, rfl⟩
    subst ewo
    have Ho := Lib.hid ho
    have HB := Lib.hid hB
    have Heq := Lib.hid heq
    have hz := hB.size
    have HBw := Lib.hid (HB4.out.trans (hB.mono hz4))
    have hzw := HBw.out.size
    have ii0 : (0 : Int) ≤ (i : Int) := by omega
    clear heq
    by_cases hlt : i + 1 < E.length
    · obtain ⟨ge', ce, ege, -, -, -, hce⟩ := (Sl.below Hsl4.out (flat_loc _) hB (Nat.le_refl _)).form
      injection ege with e1 e2 e3
      subst e1 e3
      obtain ⟨ge, oe, rfl, hge1, hge2, hcc⟩ := hce i (by omega)
      obtain ⟨cs, _, hcs, rfl⟩ := hcc i (by omega)
      obtain ⟨cs2, _, hcs2, rfl⟩ := hcc (i + 1) hlt
      have gx := hcs.c1
      have gy := hcs2.c1
      rw [Nat.mul_one] at gx gy
      have Hst := Lib.hid ((of_step (fun t => inB a t && inB b t) out E i hlt).symm.trans Heq.out)
      have iil : (i : Int) < (E.length : Int) := by omega
      have hgeB : ge < wo.heap.size := by omega
      clear hcs hcs2 hcc hce hB ho
      generalize E[i] = x at *
      generalize E[i + 1] = y at *
      obtain ⟨mi, hmi⟩ : ∃ z, z = i + 1 := ⟨_, rfl⟩
      rw [← hmi] at gy
      have Hst2 := Hst.out
      rw [← hmi] at Hst2
      have Hst := Lib.hid Hst2
      clear Hst2
      have gx4 : w4.cell? ⟨ge, oe + i, none⟩ = some (.int .i64 x) := (World.cell?_of_block (HB.out.block ge hge2)).symm.trans gx
      have gy4 : w4.cell? ⟨ge, oe + mi, none⟩ = some (.int .i64 y) := (World.cell?_of_block (HB.out.block ge hge2)).symm.trans gy
      have wmi : IntKind.i64.wrap ((i : Int) + 1) = (mi : Int) := by rw [show (i : Int) + 1 = (mi : Int) by omega]; exact wrap_ok (by omega) (by omega)
      have mi0 : (0 : Int) ≤ (mi : Int) := by omega
      have mil : (mi : Int) < (E.length : Int) := by omega
      obtain ⟨po, co, hpo⟩ := Own.slice Ho.out
      have Hmi := Lib.hid hmi
      clear hmi
      obtain ⟨nn, hnn⟩ : ∃ z, z = out.length := ⟨_, rfl⟩
      rw [← hnn] at hpo hol
      subst hpo
      have Hnn := Lib.hid hnn
      clear hnn
      go_wp2_with fail
      refine In_any lo hi a _ x wo (Sl.below Hva.out Sp.loc HBw.out hhi) _ ?_
      go_wp2_with fail
      refine In_any lo hi b _ x wo (Sl.below Hvb.out Sp.loc HBw.out hhi) _ ?_
      cases hia : inB a x
      · have Hnx : Hid (ofGo (fun t => inB a t && inB b t) out (E.drop mi) = BB) := Lib.hid (by
          have h := Hst.out
          simp only [hia, Bool.false_and] at h
          exact h)
        clear hia
        go_wp2_with fail
        go_roundw
        case rel => exact ⟨mi, out, rfl, by omega, Ho.out, by have := Hmi.out; have := Hnn.out; omega, HB.out, Hnx.out⟩
        case measure => have := Hmi.out; simp [intOf]; omega
      · cases hib : inB b x
        · have Hnx : Hid (ofGo (fun t => inB a t && inB b t) out (E.drop mi) = BB) := Lib.hid (by
            have h := Hst.out
            simp only [hia, hib, Bool.and_false] at h
            exact h)
          clear hia hib
          go_wp2_with fail
          go_roundw
          case rel => exact ⟨mi, out, rfl, by omega, Ho.out, by have := Hmi.out; have := Hnn.out; omega, HB.out, Hnx.out⟩
          case measure => have := Hmi.out; simp [intOf]; omega
        · have Hnx : Hid (ofGo (fun t => inB a t && inB b t) (addS out x y) (E.drop mi) = BB) := Lib.hid (by
            have h := Hst.out
            simp only [hia, hib, Bool.and_self] at h
            exact h)
          clear hia hib
          rcases List.eq_nil_or_concat out with rfl | ⟨L, s, hLs⟩
          · obtain rfl : nn = 0 := Hnn.out
            go_upto_region 14 with fail
            refine wp_region_held_drew (S := fun w' => w' = wo.drew) (by kernel_rfl) rfl (fun hHeld => ?_)
            refine wpAnyH_take (i := 0) (v := .int .i64 0) rfl (by kernel_rfl) (by kernel_rfl) (by kernel_rfl) (fun _ _ _ h => h) (Or.inl ⟨by rfl, ?_⟩) hHeld ?_
            · intro w' hSw; subst hSw; go_simp <;> omega
            try simp only [Act.put, List.getElem_toArray, List.getElem_cons_succ, List.getElem_cons_zero, List.setIfInBounds_toArray, List.set_cons_zero, List.set_cons_succ]
            refine wpAnyH_take (i := 1) (v := .bool false) rfl (by kernel_rfl) (by kernel_rfl) (by kernel_rfl) (fun _ _ _ h => h) (Or.inl ⟨by rfl, ?_⟩) hHeld ?_
            · intro w' hSw; subst hSw; go_simp <;> omega
            try simp only [Act.put, List.getElem_toArray, List.getElem_cons_succ, List.getElem_cons_zero, List.setIfInBounds_toArray, List.set_cons_zero, List.set_cons_succ]
            refine wpAnyH_take (i := 2) (v := .bool false) rfl (by kernel_rfl) (by kernel_rfl) (by kernel_rfl) (fun _ _ _ h => h) (Or.inl ⟨by rfl, ?_⟩) hHeld ?_
            · intro w' hSw; subst hSw; go_simp <;> omega
            try simp only [Act.put, List.getElem_toArray, List.getElem_cons_succ, List.getElem_cons_zero, List.setIfInBounds_toArray, List.set_cons_zero, List.set_cons_succ]
            refine wpAnyH_take (i := 3) (v := undef) rfl (by kernel_rfl) (by kernel_rfl) (by kernel_rfl) (fun _ _ _ h => h) (Or.inr ⟨by kernel_rfl, rfl⟩) hHeld ?_
            try simp only [Act.put, List.getElem_toArray, List.getElem_cons_succ, List.getElem_cons_zero, List.setIfInBounds_toArray, List.set_cons_zero, List.set_cons_succ]
            refine wpAnyH_take (i := 4) (v := undef) rfl (by kernel_rfl) (by kernel_rfl) (by kernel_rfl) (fun _ _ _ h => h) (Or.inr ⟨by kernel_rfl, rfl⟩) hHeld ?_
            try simp only [Act.put, List.getElem_toArray, List.getElem_cons_succ, List.getElem_cons_zero, List.setIfInBounds_toArray, List.set_cons_zero, List.set_cons_succ]
            refine wpAnyH_take (i := 5) (v := undef) rfl (by kernel_rfl) (by kernel_rfl) (by kernel_rfl) (fun _ _ _ h => h) (Or.inr ⟨by kernel_rfl, rfl⟩) hHeld ?_
            try simp only [Act.put, List.getElem_toArray, List.getElem_cons_succ, List.getElem_cons_zero, List.setIfInBounds_toArray, List.set_cons_zero, List.set_cons_succ]
            refine wpAnyH_take (i := 6) (v := undef) rfl (by kernel_rfl) (by kernel_rfl) (by kernel_rfl) (fun _ _ _ h => h) (Or.inr ⟨by kernel_rfl, rfl⟩) hHeld ?_
            try simp only [Act.put, List.getElem_toArray, List.getElem_cons_succ, List.getElem_cons_zero, List.setIfInBounds_toArray, List.set_cons_zero, List.set_cons_succ]
            refine wpAnyH_take (i := 7) (v := undef) rfl (by kernel_rfl) (by kernel_rfl) (by kernel_rfl) (fun _ _ _ h => h) (Or.inr ⟨by kernel_rfl, rfl⟩) hHeld ?_
            try simp only [Act.put, List.getElem_toArray, List.getElem_cons_succ, List.getElem_cons_zero, List.setIfInBounds_toArray, List.set_cons_zero, List.set_cons_succ]
            refine wpAnyH_take (i := 8) (v := undef) rfl (by kernel_rfl) (by kernel_rfl) (by kernel_rfl) (fun _ _ _ h => h) (Or.inr ⟨by kernel_rfl, rfl⟩) hHeld ?_
            try simp only [Act.put, List.getElem_toArray, List.getElem_cons_succ, List.getElem_cons_zero, List.setIfInBounds_toArray, List.set_cons_zero, List.set_cons_succ]
            refine wpAnyH_take (i := 9) (v := undef) rfl (by kernel_rfl) (by kernel_rfl) (by kernel_rfl) (fun _ _ _ h => h) (Or.inr ⟨by kernel_rfl, rfl⟩) hHeld ?_
            try simp only [Act.put, List.getElem_toArray, List.getElem_cons_succ, List.getElem_cons_zero, List.setIfInBounds_toArray, List.set_cons_zero, List.set_cons_succ]
            refine wpAnyH_take (i := 10) (v := undef) rfl (by kernel_rfl) (by kernel_rfl) (by kernel_rfl) (fun _ _ _ h => h) (Or.inr ⟨by kernel_rfl, rfl⟩) hHeld ?_
            try simp only [Act.put, List.getElem_toArray, List.getElem_cons_succ, List.getElem_cons_zero, List.setIfInBounds_toArray, List.set_cons_zero, List.set_cons_succ]
            refine wpAnyH_take (i := 11) (v := undef) rfl (by kernel_rfl) (by kernel_rfl) (by kernel_rfl) (fun _ _ _ h => h) (Or.inr ⟨by kernel_rfl, rfl⟩) hHeld ?_
            try simp only [Act.put, List.getElem_toArray, List.getElem_cons_succ, List.getElem_cons_zero, List.setIfInBounds_toArray, List.set_cons_zero, List.set_cons_succ]
            refine wpAnyH_take (i := 12) (v := undef) rfl (by kernel_rfl) (by kernel_rfl) (by kernel_rfl) (fun _ _ _ h => h) (Or.inr ⟨by kernel_rfl, rfl⟩) hHeld ?_
            try simp only [Act.put, List.getElem_toArray, List.getElem_cons_succ, List.getElem_cons_zero, List.setIfInBounds_toArray, List.set_cons_zero, List.set_cons_succ]
            refine wpAnyH_take (i := 13) (v := undef) rfl (by kernel_rfl) (by kernel_rfl) (by kernel_rfl) (fun _ _ _ h => h) (Or.inr ⟨by kernel_rfl, rfl⟩) hHeld ?_
            try simp only [Act.put, List.getElem_toArray, List.getElem_cons_succ, List.getElem_cons_zero, List.setIfInBounds_toArray, List.set_cons_zero, List.set_cons_succ]
            refine wpAnyH_take (i := 14) (v := .bool false) rfl (by kernel_rfl) (by kernel_rfl) (by kernel_rfl) (fun _ _ _ h => h) (Or.inl ⟨by rfl, ?_⟩) hHeld ?_
            · intro w' hSw; subst hSw; go_simp <;> omega
            try simp only [Act.put, List.getElem_toArray, List.getElem_cons_succ, List.getElem_cons_zero, List.setIfInBounds_toArray, List.set_cons_zero, List.set_cons_succ]
            refine wpAnyH_done (by kernel_rfl) ?_ _
            clear hHeld
            go_upto_region 16 with fail
            have hS0 : Below w4.heap.size w4 wo.drew.drew := HB.out.drew.drew
            obtain ⟨W0, eW0⟩ : ∃ z, z = wo.drew.drew := ⟨_, rfl⟩
            have hzW0 : wo.heap.size ≤ W0.heap.size := by rw [eW0]; exact Nat.le_refl _
            have ho0 : OwnS w4.heap.size W0 (.slice po 0 co) [] := by rw [eW0]; exact Own.same Ho.out (fun _ _ => rfl)
            have hBW0 : Below w4.heap.size w4 W0 := by rw [eW0]; exact hS0
            obtain ⟨v8, w8, hr8, ho8, ha8⟩ := appS1 ho0 ⟨x, y⟩ (n := W0.heap.size) rfl (by rw [← Hnn.out]; omega) (by omega)
            have Ho8 := Lib.hid ho8
            have hS1 : Below w4.heap.size w4 (W0.alloc (.cells #[.int .i64 x, .int .i64 y] 58)) := hBW0.trans ((alloc_below W0 _).mono (by omega))
            have hS8 : Below w4.heap.size w4 w8 := hBW0.trans (ha8.below (by omega) (fun k ek => (Own.lt ho0 k ek).1))
            have HS8 := Lib.hid hS8
            clear ho8 ha8
            refine wp_region_held_drew (S := fun w' => Below w4.heap.size w4 w') (by kernel_rfl) hS0 (fun hHeld => ?_)
            rw [← eW0]
            rw [← eW0] at hHeld
            refine wpAnyH_take (i := 0) (v := .slice po 0 co) rfl (by kernel_rfl) (by kernel_rfl) (by kernel_rfl) (fun _ _ _ h => h) (Or.inl ⟨by rfl, ?_⟩) hHeld ?_
            · intro w' hSw; go_simp <;> omega
            try simp only [Act.put, List.getElem_toArray, List.getElem_cons_succ, List.getElem_cons_zero, List.setIfInBounds_toArray, List.set_cons_zero, List.set_cons_succ]
            refine wpAnyH_take (i := 1) (v := .slice (some ⟨ge, oe, none⟩) E.length c4) rfl (by kernel_rfl) (by kernel_rfl) (by kernel_rfl) (fun _ _ _ h => h) (Or.inl ⟨by rfl, ?_⟩) hHeld ?_
            · intro w' hSw; go_simp <;> omega
            try simp only [Act.put, List.getElem_toArray, List.getElem_cons_succ, List.getElem_cons_zero, List.setIfInBounds_toArray, List.set_cons_zero, List.set_cons_succ]
            refine wpAnyH_take (i := 2) (v := .int .i64 ((i : Int))) rfl (by kernel_rfl) (by kernel_rfl) (by kernel_rfl) (fun _ _ _ h => h) (Or.inl ⟨by rfl, ?_⟩) hHeld ?_
            · intro w' hSw; go_simp <;> omega
            try simp only [Act.put, List.getElem_toArray, List.getElem_cons_succ, List.getElem_cons_zero, List.setIfInBounds_toArray, List.set_cons_zero, List.set_cons_succ]
            refine wpAnyH_take (i := 3) (v := .pointer (some ⟨ge, oe + i, none⟩)) rfl (by kernel_rfl) (by kernel_rfl) (by kernel_rfl) (fun _ _ _ h => h) (Or.inl ⟨by rfl, ?_⟩) hHeld ?_
            · intro w' hSw; go_simp <;> omega
            try simp only [Act.put, List.getElem_toArray, List.getElem_cons_succ, List.getElem_cons_zero, List.setIfInBounds_toArray, List.set_cons_zero, List.set_cons_succ]
            refine wpAnyH_take (i := 4) (v := .int .i64 x) rfl (by kernel_rfl) (by kernel_rfl) (by kernel_rfl) (fun _ _ _ h => h) (Or.inl ⟨by rfl, ?_⟩) hHeld ?_
            · intro w' hSw; have kx := (World.cell?_of_block (hSw.block ge hge2)).trans gx4; go_simp
            try simp only [Act.put, List.getElem_toArray, List.getElem_cons_succ, List.getElem_cons_zero, List.setIfInBounds_toArray, List.set_cons_zero, List.set_cons_succ]
            refine wpAnyH_take (i := 5) (v := .slice (some ⟨ge, oe, none⟩) E.length c4) rfl (by kernel_rfl) (by kernel_rfl) (by kernel_rfl) (fun _ _ _ h => h) (Or.inl ⟨by rfl, ?_⟩) hHeld ?_
            · intro w' hSw; go_simp <;> omega
            try simp only [Act.put, List.getElem_toArray, List.getElem_cons_succ, List.getElem_cons_zero, List.setIfInBounds_toArray, List.set_cons_zero, List.set_cons_succ]
            refine wpAnyH_take (i := 6) (v := .int .i64 ((i : Int))) rfl (by kernel_rfl) (by kernel_rfl) (by kernel_rfl) (fun _ _ _ h => h) (Or.inl ⟨by rfl, ?_⟩) hHeld ?_
            · intro w' hSw; go_simp <;> omega
            try simp only [Act.put, List.getElem_toArray, List.getElem_cons_succ, List.getElem_cons_zero, List.setIfInBounds_toArray, List.set_cons_zero, List.set_cons_succ]
            refine wpAnyH_take (i := 7) (v := .int .i64 ((mi : Int))) rfl (by kernel_rfl) (by kernel_rfl) (by kernel_rfl) (fun _ _ _ h => h) (Or.inl ⟨by rfl, ?_⟩) hHeld ?_
            · intro w' hSw; go_simp <;> omega
            try simp only [Act.put, List.getElem_toArray, List.getElem_cons_succ, List.getElem_cons_zero, List.setIfInBounds_toArray, List.set_cons_zero, List.set_cons_succ]
            refine wpAnyH_take (i := 8) (v := .pointer (some ⟨ge, oe + mi, none⟩)) rfl (by kernel_rfl) (by kernel_rfl) (by kernel_rfl) (fun _ _ _ h => h) (Or.inl ⟨by rfl, ?_⟩) hHeld ?_
            · intro w' hSw; go_simp <;> omega
            try simp only [Act.put, List.getElem_toArray, List.getElem_cons_succ, List.getElem_cons_zero, List.setIfInBounds_toArray, List.set_cons_zero, List.set_cons_succ]
            refine wpAnyH_take (i := 9) (v := .int .i64 y) rfl (by kernel_rfl) (by kernel_rfl) (by kernel_rfl) (fun _ _ _ h => h) (Or.inl ⟨by rfl, ?_⟩) hHeld ?_
            · intro w' hSw; have kx := (World.cell?_of_block (hSw.block ge hge2)).trans gy4; go_simp
            try simp only [Act.put, List.getElem_toArray, List.getElem_cons_succ, List.getElem_cons_zero, List.setIfInBounds_toArray, List.set_cons_zero, List.set_cons_succ]
            refine wpAnyH_take (i := 10) (v := .agg #[.int .i64 x, .int .i64 y]) rfl (by kernel_rfl) (by kernel_rfl) (by kernel_rfl) (fun _ _ _ h => h) (Or.inl ⟨by rfl, ?_⟩) hHeld ?_
            · intro w' hSw; go_simp <;> omega
            try simp only [Act.put, List.getElem_toArray, List.getElem_cons_succ, List.getElem_cons_zero, List.setIfInBounds_toArray, List.set_cons_zero, List.set_cons_succ]
            refine wpAnyH_ready (rs := [11]) (by kernel_rfl) (by simp) ?_
            refine allVal (v := .slice (some ⟨W0.heap.size, 0, none⟩) 1 1) (w' := W0.alloc (.cells #[.int .i64 x, .int .i64 y] 58)) rfl (by kernel_rfl) ?_ hS1 ?_ AllReadyH.nil
            · go_simp
            try simp only [Act.put, List.getElem_toArray, List.getElem_cons_succ, List.getElem_cons_zero, List.setIfInBounds_toArray, List.set_cons_zero, List.set_cons_succ]
            refine wpAnyH_ready (rs := [12]) (by kernel_rfl) (by simp) ?_
            refine allVal (v := v8) (w' := w8) rfl (by kernel_rfl) (execApp hr8 rfl rfl rfl) hS8 ?_ AllReadyH.nil
            try simp only [Act.put, List.getElem_toArray, List.getElem_cons_succ, List.getElem_cons_zero, List.setIfInBounds_toArray, List.set_cons_zero, List.set_cons_succ]
            clear hHeld
            have hHeld := HS8.out
            refine wpAnyH_take (i := 13) (v := v8) rfl (by kernel_rfl) (by kernel_rfl) (by kernel_rfl) (fun _ _ _ h => h) (Or.inl ⟨by rfl, ?_⟩) hHeld ?_
            · intro w' hSw; go_simp
            try simp only [Act.put, List.getElem_toArray, List.getElem_cons_succ, List.getElem_cons_zero, List.setIfInBounds_toArray, List.set_cons_zero, List.set_cons_succ]
            refine wpAnyH_done (by kernel_rfl) ?_ _
            clear hHeld
            clear hr8 hS1 hS8 gx gy gx4 gy4 ho0 hBW0 hS0
            go_wp2_with fail
            go_roundw
            case rel => exact ⟨mi, _, rfl, by omega, Ho8.out, by have := Hmi.out; rw [List.length_append, List.length_singleton, ← Hnn.out]; omega, HS8.out, Hnx.out⟩
            case measure => have := Hmi.out; simp [intOf]; omega
          · rw [List.concat_eq_append] at hLs
            subst hLs
            obtain ⟨g, co', ego, hg1, hg2, hg3, hg4, hgc, hgf⟩ := Own.form Ho.out (by simp)
            injection ego with eg1 eg2 eg3
            subst eg1 eg3
            obtain ⟨m, hm⟩ : ∃ z, z = L.length := ⟨_, rfl⟩
            have hnm : nn = m + 1 := by rw [Hnn.out, hm]; simp
            have gs : wo.cell? ⟨g, m * 2 + 1, none⟩ = some (.int .i64 s.t) := by
              have h := hgc (m * 2 + 1) (.int .i64 s.t) (by
                rw [List.flatMap_append, List.getElem?_append_right (by rw [flat2, hm]; omega), flat2, hm, show L.length * 2 + 1 - L.length * 2 = 1 by omega]
                rfl)
              rwa [Nat.zero_add] at h
            have gf := hgf (m * 2 + 1)
            have wsub : IntKind.i64.wrap ((nn : Int) - 1) = (m : Int) := by rw [show (nn : Int) - 1 = (m : Int) by omega]; exact wrap_ok (by omega) (by omega)
            have nn0 : (0 : Int) < (nn : Int) := by omega
            have m0 : (0 : Int) ≤ (m : Int) := by omega
            have ml : (m : Int) < (nn : Int) := by omega
            have Hm := Lib.hid (And.intro hm hnm)
            clear hgc hgf hm hnm eg2
            rw [addS_snoc] at Hnx
            by_cases hsx : s.t = x
            · rw [if_pos hsx] at Hnx
              have ho9 : OwnS w4.heap.size (wo.drew.setCell ⟨g, m * 2 + 1, none⟩ (.int .i64 y)) (.slice (some ⟨g, 0, none⟩) nn co) (L ++ [⟨s.f, y⟩]) := by
                have h := OwnS.setLast (w := wo.drew) (L := L) (s := s) (g := g) (c := co) (by rw [← Hnn.out]; exact Own.same Ho.out (fun _ _ => rfl)) y Hm.out.1
                have e3 : (L ++ [(⟨s.f, y⟩ : Sp)]).length = nn := by rw [Hm.out.2, Hm.out.1]; simp
                rwa [e3] at h
              have Ho9 := Lib.hid ho9
              have HB9 := Lib.hid (HB.out.drew.setCell (p := ⟨g, m * 2 + 1, none⟩) hg1 (.int .i64 y))
              clear ho9
              subst hsx
              go_upto_region 14 with fail
              refine wp_region_held_drew (S := fun w' => w' = wo.drew) (by kernel_rfl) rfl (fun hHeld => ?_)
              refine wpAnyH_take (i := 0) (v := .int .i64 ((nn : Int))) rfl (by kernel_rfl) (by kernel_rfl) (by kernel_rfl) (fun _ _ _ h => h) (Or.inl ⟨by rfl, ?_⟩) hHeld ?_
              · intro w' hSw; subst hSw; go_simp <;> omega
              try simp only [Act.put, List.getElem_toArray, List.getElem_cons_succ, List.getElem_cons_zero, List.setIfInBounds_toArray, List.set_cons_zero, List.set_cons_succ]
              refine wpAnyH_take (i := 1) (v := .bool true) rfl (by kernel_rfl) (by kernel_rfl) (by kernel_rfl) (fun _ _ _ h => h) (Or.inl ⟨by rfl, ?_⟩) hHeld ?_
              · intro w' hSw; subst hSw; go_simp <;> omega
              try simp only [Act.put, List.getElem_toArray, List.getElem_cons_succ, List.getElem_cons_zero, List.setIfInBounds_toArray, List.set_cons_zero, List.set_cons_succ]
              refine wpAnyH_take (i := 2) (v := .bool true) rfl (by kernel_rfl) (by kernel_rfl) (by kernel_rfl) (fun _ _ _ h => h) (Or.inl ⟨by rfl, ?_⟩) hHeld ?_
              · intro w' hSw; subst hSw; go_simp <;> omega
              try simp only [Act.put, List.getElem_toArray, List.getElem_cons_succ, List.getElem_cons_zero, List.setIfInBounds_toArray, List.set_cons_zero, List.set_cons_succ]
              refine wpAnyH_take (i := 3) (v := .slice (some ⟨g, 0, none⟩) nn co) rfl (by kernel_rfl) (by kernel_rfl) (by kernel_rfl) (fun _ _ _ h => h) (Or.inl ⟨by rfl, ?_⟩) hHeld ?_
              · intro w' hSw; subst hSw; go_simp <;> omega
              try simp only [Act.put, List.getElem_toArray, List.getElem_cons_succ, List.getElem_cons_zero, List.setIfInBounds_toArray, List.set_cons_zero, List.set_cons_succ]
              refine wpAnyH_take (i := 4) (v := .int .i64 ((nn : Int))) rfl (by kernel_rfl) (by kernel_rfl) (by kernel_rfl) (fun _ _ _ h => h) (Or.inl ⟨by rfl, ?_⟩) hHeld ?_
              · intro w' hSw; subst hSw; go_simp <;> omega
              try simp only [Act.put, List.getElem_toArray, List.getElem_cons_succ, List.getElem_cons_zero, List.setIfInBounds_toArray, List.set_cons_zero, List.set_cons_succ]
              refine wpAnyH_take (i := 5) (v := .int .i64 ((m : Int))) rfl (by kernel_rfl) (by kernel_rfl) (by kernel_rfl) (fun _ _ _ h => h) (Or.inl ⟨by rfl, ?_⟩) hHeld ?_
              · intro w' hSw; subst hSw; go_simp <;> omega
              try simp only [Act.put, List.getElem_toArray, List.getElem_cons_succ, List.getElem_cons_zero, List.setIfInBounds_toArray, List.set_cons_zero, List.set_cons_succ]
              refine wpAnyH_take (i := 6) (v := .pointer (some ⟨g, m * 2, none⟩)) rfl (by kernel_rfl) (by kernel_rfl) (by kernel_rfl) (fun _ _ _ h => h) (Or.inl ⟨by rfl, ?_⟩) hHeld ?_
              · intro w' hSw; subst hSw; go_simp <;> omega
              try simp only [Act.put, List.getElem_toArray, List.getElem_cons_succ, List.getElem_cons_zero, List.setIfInBounds_toArray, List.set_cons_zero, List.set_cons_succ]
              refine wpAnyH_take (i := 7) (v := .pointer (some ⟨g, m * 2 + 1, none⟩)) rfl (by kernel_rfl) (by kernel_rfl) (by kernel_rfl) (fun _ _ _ h => h) (Or.inl ⟨by rfl, ?_⟩) hHeld ?_
              · intro w' hSw; subst hSw; go_simp <;> omega
              try simp only [Act.put, List.getElem_toArray, List.getElem_cons_succ, List.getElem_cons_zero, List.setIfInBounds_toArray, List.set_cons_zero, List.set_cons_succ]
              refine wpAnyH_take (i := 8) (v := .int .i64 (s.t)) rfl (by kernel_rfl) (by kernel_rfl) (by kernel_rfl) (fun _ _ _ h => h) (Or.inl ⟨by rfl, ?_⟩) hHeld ?_
              · intro w' hSw; subst hSw; have kx := gs; go_simp
              try simp only [Act.put, List.getElem_toArray, List.getElem_cons_succ, List.getElem_cons_zero, List.setIfInBounds_toArray, List.set_cons_zero, List.set_cons_succ]
              refine wpAnyH_take (i := 9) (v := .slice (some ⟨ge, oe, none⟩) E.length c4) rfl (by kernel_rfl) (by kernel_rfl) (by kernel_rfl) (fun _ _ _ h => h) (Or.inl ⟨by rfl, ?_⟩) hHeld ?_
              · intro w' hSw; subst hSw; go_simp <;> omega
              try simp only [Act.put, List.getElem_toArray, List.getElem_cons_succ, List.getElem_cons_zero, List.setIfInBounds_toArray, List.set_cons_zero, List.set_cons_succ]
              refine wpAnyH_take (i := 10) (v := .int .i64 ((i : Int))) rfl (by kernel_rfl) (by kernel_rfl) (by kernel_rfl) (fun _ _ _ h => h) (Or.inl ⟨by rfl, ?_⟩) hHeld ?_
              · intro w' hSw; subst hSw; go_simp <;> omega
              try simp only [Act.put, List.getElem_toArray, List.getElem_cons_succ, List.getElem_cons_zero, List.setIfInBounds_toArray, List.set_cons_zero, List.set_cons_succ]
              refine wpAnyH_take (i := 11) (v := .pointer (some ⟨ge, oe + i, none⟩)) rfl (by kernel_rfl) (by kernel_rfl) (by kernel_rfl) (fun _ _ _ h => h) (Or.inl ⟨by rfl, ?_⟩) hHeld ?_
              · intro w' hSw; subst hSw; go_simp <;> omega
              try simp only [Act.put, List.getElem_toArray, List.getElem_cons_succ, List.getElem_cons_zero, List.setIfInBounds_toArray, List.set_cons_zero, List.set_cons_succ]
              refine wpAnyH_take (i := 12) (v := .int .i64 s.t) rfl (by kernel_rfl) (by kernel_rfl) (by kernel_rfl) (fun _ _ _ h => h) (Or.inl ⟨by rfl, ?_⟩) hHeld ?_
              · intro w' hSw; subst hSw; have kx := gx; go_simp
              try simp only [Act.put, List.getElem_toArray, List.getElem_cons_succ, List.getElem_cons_zero, List.setIfInBounds_toArray, List.set_cons_zero, List.set_cons_succ]
              refine wpAnyH_take (i := 13) (v := .bool true) rfl (by kernel_rfl) (by kernel_rfl) (by kernel_rfl) (fun _ _ _ h => h) (Or.inl ⟨by rfl, ?_⟩) hHeld ?_
              · intro w' hSw; subst hSw; go_simp <;> omega
              try simp only [Act.put, List.getElem_toArray, List.getElem_cons_succ, List.getElem_cons_zero, List.setIfInBounds_toArray, List.set_cons_zero, List.set_cons_succ]
              refine wpAnyH_take (i := 14) (v := .bool true) rfl (by kernel_rfl) (by kernel_rfl) (by kernel_rfl) (fun _ _ _ h => h) (Or.inl ⟨by rfl, ?_⟩) hHeld ?_
              · intro w' hSw; subst hSw; go_simp <;> omega
              try simp only [Act.put, List.getElem_toArray, List.getElem_cons_succ, List.getElem_cons_zero, List.setIfInBounds_toArray, List.set_cons_zero, List.set_cons_succ]
              refine wpAnyH_done (by kernel_rfl) ?_ _
              clear hHeld
              have gs2 : wo.drew.cell? ⟨g, m * 2 + 1, none⟩ = some (.int .i64 s.t) := gs
              have gf2 : wo.drew.frozen? ⟨g, m * 2 + 1, none⟩ = false := gf
              have gy2 : wo.drew.cell? ⟨ge, oe + mi, none⟩ = some (.int .i64 y) := gy
              clear gs gf gy gx gx4 gy4
              go_wp2_with fail
              go_roundw
              case rel => exact ⟨mi, _, rfl, by omega, Ho9.out, by have := Hmi.out; have := Hnn.out; rw [List.length_append, List.length_singleton] at this ⊢; omega, HB9.out, Hnx.out⟩
              case measure => have := Hmi.out; simp [intOf]; omega
            · rw [if_neg hsx] at Hnx
              have Hsx := Lib.hid hsx
              have g7 : (s.t == x) = false := by simp [hsx]
              clear hsx
              go_upto_region 14 with fail
              refine wp_region_held_drew (S := fun w' => w' = wo.drew) (by kernel_rfl) rfl (fun hHeld => ?_)
              refine wpAnyH_take (i := 0) (v := .int .i64 ((nn : Int))) rfl (by kernel_rfl) (by kernel_rfl) (by kernel_rfl) (fun _ _ _ h => h) (Or.inl ⟨by rfl, ?_⟩) hHeld ?_
              · intro w' hSw; subst hSw; go_simp <;> omega
              try simp only [Act.put, List.getElem_toArray, List.getElem_cons_succ, List.getElem_cons_zero, List.setIfInBounds_toArray, List.set_cons_zero, List.set_cons_succ]
              refine wpAnyH_take (i := 1) (v := .bool true) rfl (by kernel_rfl) (by kernel_rfl) (by kernel_rfl) (fun _ _ _ h => h) (Or.inl ⟨by rfl, ?_⟩) hHeld ?_
              · intro w' hSw; subst hSw; go_simp <;> omega
              try simp only [Act.put, List.getElem_toArray, List.getElem_cons_succ, List.getElem_cons_zero, List.setIfInBounds_toArray, List.set_cons_zero, List.set_cons_succ]
              refine wpAnyH_take (i := 2) (v := .bool true) rfl (by kernel_rfl) (by kernel_rfl) (by kernel_rfl) (fun _ _ _ h => h) (Or.inl ⟨by rfl, ?_⟩) hHeld ?_
              · intro w' hSw; subst hSw; go_simp <;> omega
              try simp only [Act.put, List.getElem_toArray, List.getElem_cons_succ, List.getElem_cons_zero, List.setIfInBounds_toArray, List.set_cons_zero, List.set_cons_succ]
              refine wpAnyH_take (i := 3) (v := .slice (some ⟨g, 0, none⟩) nn co) rfl (by kernel_rfl) (by kernel_rfl) (by kernel_rfl) (fun _ _ _ h => h) (Or.inl ⟨by rfl, ?_⟩) hHeld ?_
              · intro w' hSw; subst hSw; go_simp <;> omega
              try simp only [Act.put, List.getElem_toArray, List.getElem_cons_succ, List.getElem_cons_zero, List.setIfInBounds_toArray, List.set_cons_zero, List.set_cons_succ]
              refine wpAnyH_take (i := 4) (v := .int .i64 ((nn : Int))) rfl (by kernel_rfl) (by kernel_rfl) (by kernel_rfl) (fun _ _ _ h => h) (Or.inl ⟨by rfl, ?_⟩) hHeld ?_
              · intro w' hSw; subst hSw; go_simp <;> omega
              try simp only [Act.put, List.getElem_toArray, List.getElem_cons_succ, List.getElem_cons_zero, List.setIfInBounds_toArray, List.set_cons_zero, List.set_cons_succ]
              refine wpAnyH_take (i := 5) (v := .int .i64 ((m : Int))) rfl (by kernel_rfl) (by kernel_rfl) (by kernel_rfl) (fun _ _ _ h => h) (Or.inl ⟨by rfl, ?_⟩) hHeld ?_
              · intro w' hSw; subst hSw; go_simp <;> omega
              try simp only [Act.put, List.getElem_toArray, List.getElem_cons_succ, List.getElem_cons_zero, List.setIfInBounds_toArray, List.set_cons_zero, List.set_cons_succ]
              refine wpAnyH_take (i := 6) (v := .pointer (some ⟨g, m * 2, none⟩)) rfl (by kernel_rfl) (by kernel_rfl) (by kernel_rfl) (fun _ _ _ h => h) (Or.inl ⟨by rfl, ?_⟩) hHeld ?_
              · intro w' hSw; subst hSw; go_simp <;> omega
              try simp only [Act.put, List.getElem_toArray, List.getElem_cons_succ, List.getElem_cons_zero, List.setIfInBounds_toArray, List.set_cons_zero, List.set_cons_succ]
              refine wpAnyH_take (i := 7) (v := .pointer (some ⟨g, m * 2 + 1, none⟩)) rfl (by kernel_rfl) (by kernel_rfl) (by kernel_rfl) (fun _ _ _ h => h) (Or.inl ⟨by rfl, ?_⟩) hHeld ?_
              · intro w' hSw; subst hSw; go_simp <;> omega
              try simp only [Act.put, List.getElem_toArray, List.getElem_cons_succ, List.getElem_cons_zero, List.setIfInBounds_toArray, List.set_cons_zero, List.set_cons_succ]
              refine wpAnyH_take (i := 8) (v := .int .i64 (s.t)) rfl (by kernel_rfl) (by kernel_rfl) (by kernel_rfl) (fun _ _ _ h => h) (Or.inl ⟨by rfl, ?_⟩) hHeld ?_
              · intro w' hSw; subst hSw; have kx := gs; go_simp
              try simp only [Act.put, List.getElem_toArray, List.getElem_cons_succ, List.getElem_cons_zero, List.setIfInBounds_toArray, List.set_cons_zero, List.set_cons_succ]
              refine wpAnyH_take (i := 9) (v := .slice (some ⟨ge, oe, none⟩) E.length c4) rfl (by kernel_rfl) (by kernel_rfl) (by kernel_rfl) (fun _ _ _ h => h) (Or.inl ⟨by rfl, ?_⟩) hHeld ?_
              · intro w' hSw; subst hSw; go_simp <;> omega
              try simp only [Act.put, List.getElem_toArray, List.getElem_cons_succ, List.getElem_cons_zero, List.setIfInBounds_toArray, List.set_cons_zero, List.set_cons_succ]
              refine wpAnyH_take (i := 10) (v := .int .i64 ((i : Int))) rfl (by kernel_rfl) (by kernel_rfl) (by kernel_rfl) (fun _ _ _ h => h) (Or.inl ⟨by rfl, ?_⟩) hHeld ?_
              · intro w' hSw; subst hSw; go_simp <;> omega
              try simp only [Act.put, List.getElem_toArray, List.getElem_cons_succ, List.getElem_cons_zero, List.setIfInBounds_toArray, List.set_cons_zero, List.set_cons_succ]
              refine wpAnyH_take (i := 11) (v := .pointer (some ⟨ge, oe + i, none⟩)) rfl (by kernel_rfl) (by kernel_rfl) (by kernel_rfl) (fun _ _ _ h => h) (Or.inl ⟨by rfl, ?_⟩) hHeld ?_
              · intro w' hSw; subst hSw; go_simp <;> omega
              try simp only [Act.put, List.getElem_toArray, List.getElem_cons_succ, List.getElem_cons_zero, List.setIfInBounds_toArray, List.set_cons_zero, List.set_cons_succ]
              refine wpAnyH_take (i := 12) (v := .int .i64 x) rfl (by kernel_rfl) (by kernel_rfl) (by kernel_rfl) (fun _ _ _ h => h) (Or.inl ⟨by rfl, ?_⟩) hHeld ?_
              · intro w' hSw; subst hSw; have kx := gx; go_simp
              try simp only [Act.put, List.getElem_toArray, List.getElem_cons_succ, List.getElem_cons_zero, List.setIfInBounds_toArray, List.set_cons_zero, List.set_cons_succ]
              refine wpAnyH_take (i := 13) (v := .bool false) rfl (by kernel_rfl) (by kernel_rfl) (by kernel_rfl) (fun _ _ _ h => h) (Or.inl ⟨by rfl, ?_⟩) hHeld ?_
              · intro w' hSw; subst hSw; go_simp <;> omega
              try simp only [Act.put, List.getElem_toArray, List.getElem_cons_succ, List.getElem_cons_zero, List.setIfInBounds_toArray, List.set_cons_zero, List.set_cons_succ]
              refine wpAnyH_take (i := 14) (v := .bool false) rfl (by kernel_rfl) (by kernel_rfl) (by kernel_rfl) (fun _ _ _ h => h) (Or.inl ⟨by rfl, ?_⟩) hHeld ?_
              · intro w' hSw; subst hSw; go_simp <;> omega
              try simp only [Act.put, List.getElem_toArray, List.getElem_cons_succ, List.getElem_cons_zero, List.setIfInBounds_toArray, List.set_cons_zero, List.set_cons_succ]
              refine wpAnyH_done (by kernel_rfl) ?_ _
              clear hHeld
              clear gs gf
              go_upto_region 16 with fail
              have hS0 : Below w4.heap.size w4 wo.drew.drew := HB.out.drew.drew
              obtain ⟨W0, eW0⟩ : ∃ z, z = wo.drew.drew := ⟨_, rfl⟩
              have hzW0 : wo.heap.size ≤ W0.heap.size := by rw [eW0]; exact Nat.le_refl _
              have ho0 : OwnS w4.heap.size W0 (.slice (some ⟨g, 0, none⟩) nn co) (L ++ [s]) := by rw [eW0]; exact Own.same Ho.out (fun _ _ => rfl)
              have hBW0 : Below w4.heap.size w4 W0 := by rw [eW0]; exact hS0
              obtain ⟨v8, w8, hr8, ho8, ha8⟩ := appS1 ho0 ⟨x, y⟩ (n := W0.heap.size) rfl (by rw [← Hnn.out]; omega) (by omega)
              have Ho8 := Lib.hid ho8
              have hS1 : Below w4.heap.size w4 (W0.alloc (.cells #[.int .i64 x, .int .i64 y] 58)) := hBW0.trans ((alloc_below W0 _).mono (by omega))
              have hS8 : Below w4.heap.size w4 w8 := hBW0.trans (ha8.below (by omega) (fun k ek => (Own.lt ho0 k ek).1))
              have HS8 := Lib.hid hS8
              clear ho8 ha8
              refine wp_region_held_drew (S := fun w' => Below w4.heap.size w4 w') (by kernel_rfl) hS0 (fun hHeld => ?_)
              rw [← eW0]
              rw [← eW0] at hHeld
              refine wpAnyH_take (i := 0) (v := .slice (some ⟨g, 0, none⟩) nn co) rfl (by kernel_rfl) (by kernel_rfl) (by kernel_rfl) (fun _ _ _ h => h) (Or.inl ⟨by rfl, ?_⟩) hHeld ?_
              · intro w' hSw; go_simp <;> omega
              try simp only [Act.put, List.getElem_toArray, List.getElem_cons_succ, List.getElem_cons_zero, List.setIfInBounds_toArray, List.set_cons_zero, List.set_cons_succ]
              refine wpAnyH_take (i := 1) (v := .slice (some ⟨ge, oe, none⟩) E.length c4) rfl (by kernel_rfl) (by kernel_rfl) (by kernel_rfl) (fun _ _ _ h => h) (Or.inl ⟨by rfl, ?_⟩) hHeld ?_
              · intro w' hSw; go_simp <;> omega
              try simp only [Act.put, List.getElem_toArray, List.getElem_cons_succ, List.getElem_cons_zero, List.setIfInBounds_toArray, List.set_cons_zero, List.set_cons_succ]
              refine wpAnyH_take (i := 2) (v := .int .i64 ((i : Int))) rfl (by kernel_rfl) (by kernel_rfl) (by kernel_rfl) (fun _ _ _ h => h) (Or.inl ⟨by rfl, ?_⟩) hHeld ?_
              · intro w' hSw; go_simp <;> omega
              try simp only [Act.put, List.getElem_toArray, List.getElem_cons_succ, List.getElem_cons_zero, List.setIfInBounds_toArray, List.set_cons_zero, List.set_cons_succ]
              refine wpAnyH_take (i := 3) (v := .pointer (some ⟨ge, oe + i, none⟩)) rfl (by kernel_rfl) (by kernel_rfl) (by kernel_rfl) (fun _ _ _ h => h) (Or.inl ⟨by rfl, ?_⟩) hHeld ?_
              · intro w' hSw; go_simp <;> omega
              try simp only [Act.put, List.getElem_toArray, List.getElem_cons_succ, List.getElem_cons_zero, List.setIfInBounds_toArray, List.set_cons_zero, List.set_cons_succ]
              refine wpAnyH_take (i := 4) (v := .int .i64 x) rfl (by kernel_rfl) (by kernel_rfl) (by kernel_rfl) (fun _ _ _ h => h) (Or.inl ⟨by rfl, ?_⟩) hHeld ?_
              · intro w' hSw; have kx := (World.cell?_of_block (hSw.block ge hge2)).trans gx4; go_simp
              try simp only [Act.put, List.getElem_toArray, List.getElem_cons_succ, List.getElem_cons_zero, List.setIfInBounds_toArray, List.set_cons_zero, List.set_cons_succ]
              refine wpAnyH_take (i := 5) (v := .slice (some ⟨ge, oe, none⟩) E.length c4) rfl (by kernel_rfl) (by kernel_rfl) (by kernel_rfl) (fun _ _ _ h => h) (Or.inl ⟨by rfl, ?_⟩) hHeld ?_
              · intro w' hSw; go_simp <;> omega
              try simp only [Act.put, List.getElem_toArray, List.getElem_cons_succ, List.getElem_cons_zero, List.setIfInBounds_toArray, List.set_cons_zero, List.set_cons_succ]
              refine wpAnyH_take (i := 6) (v := .int .i64 ((i : Int))) rfl (by kernel_rfl) (by kernel_rfl) (by kernel_rfl) (fun _ _ _ h => h) (Or.inl ⟨by rfl, ?_⟩) hHeld ?_
              · intro w' hSw; go_simp <;> omega
              try simp only [Act.put, List.getElem_toArray, List.getElem_cons_succ, List.getElem_cons_zero, List.setIfInBounds_toArray, List.set_cons_zero, List.set_cons_succ]
              refine wpAnyH_take (i := 7) (v := .int .i64 ((mi : Int))) rfl (by kernel_rfl) (by kernel_rfl) (by kernel_rfl) (fun _ _ _ h => h) (Or.inl ⟨by rfl, ?_⟩) hHeld ?_
              · intro w' hSw; go_simp <;> omega
              try simp only [Act.put, List.getElem_toArray, List.getElem_cons_succ, List.getElem_cons_zero, List.setIfInBounds_toArray, List.set_cons_zero, List.set_cons_succ]
              refine wpAnyH_take (i := 8) (v := .pointer (some ⟨ge, oe + mi, none⟩)) rfl (by kernel_rfl) (by kernel_rfl) (by kernel_rfl) (fun _ _ _ h => h) (Or.inl ⟨by rfl, ?_⟩) hHeld ?_
              · intro w' hSw; go_simp <;> omega
              try simp only [Act.put, List.getElem_toArray, List.getElem_cons_succ, List.getElem_cons_zero, List.setIfInBounds_toArray, List.set_cons_zero, List.set_cons_succ]
              refine wpAnyH_take (i := 9) (v := .int .i64 y) rfl (by kernel_rfl) (by kernel_rfl) (by kernel_rfl) (fun _ _ _ h => h) (Or.inl ⟨by rfl, ?_⟩) hHeld ?_
              · intro w' hSw; have kx := (World.cell?_of_block (hSw.block ge hge2)).trans gy4; go_simp
              try simp only [Act.put, List.getElem_toArray, List.getElem_cons_succ, List.getElem_cons_zero, List.setIfInBounds_toArray, List.set_cons_zero, List.set_cons_succ]
              refine wpAnyH_take (i := 10) (v := .agg #[.int .i64 x, .int .i64 y]) rfl (by kernel_rfl) (by kernel_rfl) (by kernel_rfl) (fun _ _ _ h => h) (Or.inl ⟨by rfl, ?_⟩) hHeld ?_
              · intro w' hSw; go_simp <;> omega
              try simp only [Act.put, List.getElem_toArray, List.getElem_cons_succ, List.getElem_cons_zero, List.setIfInBounds_toArray, List.set_cons_zero, List.set_cons_succ]
              refine wpAnyH_ready (rs := [11]) (by kernel_rfl) (by simp) ?_
              refine allVal (v := .slice (some ⟨W0.heap.size, 0, none⟩) 1 1) (w' := W0.alloc (.cells #[.int .i64 x, .int .i64 y] 58)) rfl (by kernel_rfl) ?_ hS1 ?_ AllReadyH.nil
              · go_simp
              try simp only [Act.put, List.getElem_toArray, List.getElem_cons_succ, List.getElem_cons_zero, List.setIfInBounds_toArray, List.set_cons_zero, List.set_cons_succ]
              refine wpAnyH_ready (rs := [12]) (by kernel_rfl) (by simp) ?_
              refine allVal (v := v8) (w' := w8) rfl (by kernel_rfl) (execApp hr8 rfl rfl rfl) hS8 ?_ AllReadyH.nil
              try simp only [Act.put, List.getElem_toArray, List.getElem_cons_succ, List.getElem_cons_zero, List.setIfInBounds_toArray, List.set_cons_zero, List.set_cons_succ]
              clear hHeld
              have hHeld := HS8.out
              refine wpAnyH_take (i := 13) (v := v8) rfl (by kernel_rfl) (by kernel_rfl) (by kernel_rfl) (fun _ _ _ h => h) (Or.inl ⟨by rfl, ?_⟩) hHeld ?_
              · intro w' hSw; go_simp
              try simp only [Act.put, List.getElem_toArray, List.getElem_cons_succ, List.getElem_cons_zero, List.setIfInBounds_toArray, List.set_cons_zero, List.set_cons_succ]
              refine wpAnyH_done (by kernel_rfl) ?_ _
              clear hHeld
              clear hr8 hS1 hS8 gx gy gx4 gy4 ho0 hBW0 hS0
              go_wp2_with fail
              go_roundw
              case rel => exact ⟨mi, _, rfl, by omega, Ho8.out, by have := Hmi.out; rw [List.length_append, List.length_singleton, ← Hnn.out]; omega, HS8.out, Hnx.out⟩
              case measure => have := Hmi.out; simp [intOf]; omega
    · have hr := HR.out wo _ HBw.out (by
        have h := Heq.out
        rw [of_end _ _ _ _ hlt] at h
        rw [← h]
        exact OwnS.lower ho hz4)
      have wmi : IntKind.i64.wrap ((i : Int) + 1) = (i : Int) + 1 := by rw [show (i : Int) + 1 = ((i + 1 : Nat) : Int) by omega]; exact wrap_ok (by omega) (by omega)
      obtain ⟨po, co, hpo⟩ := Own.slice ho
      subst hpo
      clear hB ho
      go_wp2_with fail
      first | exact hr | exact fin hr rfl
end Go.Proofs.Ytkcpanaojehgiaa
