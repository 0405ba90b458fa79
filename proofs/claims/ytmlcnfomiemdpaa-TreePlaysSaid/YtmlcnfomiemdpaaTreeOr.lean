/- The walk of TreeOrder. (Printed by treeor.py.) -/
import Derived.Test.YtmlcnfomiemdpaaTreeEq
import Derived.Laws.Cover1
namespace Go.Proofs.Ytmlcnfomiemdpaa
open Go.RowKit
attribute [local go_sem ↓] Go.wp_at_zero Go.wp_at_succ
set_option linter.unusedVariables false
set_option linter.unusedSimpArgs false

theorem insL_front (k v : List UInt8) (l : PL) (h : ∀ x ∈ l, cmpB k x.1 < 0) : insL k v l = (k, v) :: l := by
  cases l with
  | nil => rfl
  | cons x r => simp only [insL]; rw [if_pos (h x List.mem_cons_self)]
theorem rises_drop {l : PL} (h : Rises l) (n : Nat) (hn : n < l.length) : ∀ x ∈ l.drop (n + 1), cmpB l[n].1 x.1 < 0 := by
  have h1 : Rises (l.drop n) := List.Pairwise.sublist (List.drop_sublist n l) h
  rw [List.drop_eq_getElem_cons hn] at h1
  exact (List.pairwise_cons.1 h1).1
theorem insL_drop {l : PL} (h : Rises l) (n : Nat) (hn : n < l.length) : insL l[n].1 l[n].2 (l.drop (n + 1)) = l.drop n := by
  rw [insL_front _ _ _ (rises_drop h n hn), List.drop_eq_getElem_cons hn]
theorem rises_lt {l : PL} (h : Rises l) (i j : Nat) (hij : i < j) (hj : j < l.length) : cmpB (l[i]'(by omega)).1 l[j].1 < 0 := List.pairwise_iff_getElem.1 h i j (by omega) hj hij
theorem rank_at {l : PL} (h : Rises l) (i : Nat) (hi : i < l.length) : (lowL l[i].1 l).length = i := by
  have e : l = l.take i ++ l[i] :: l.drop (i + 1) := by rw [← List.drop_eq_getElem_cons hi, List.take_append_drop]
  have h1 : (l.take i).filter (fun x => decide (cmpB x.1 l[i].1 < 0)) = l.take i := List.filter_eq_self.2 (fun x hx => by
    obtain ⟨j, hj, rfl⟩ := List.mem_iff_getElem.1 hx
    rw [List.length_take] at hj
    rw [List.getElem_take]
    exact decide_eq_true (rises_lt h j i (by omega) hi))
  have h2 : (l.drop (i + 1)).filter (fun x => decide (cmpB x.1 l[i].1 < 0)) = [] := List.filter_eq_nil_iff.2 (fun x hx hd => by
    have h3 := of_decide_eq_true hd
    have h4 := rises_drop h i hi x hx
    have := cmpB_flip x.1 l[i].1
    omega)
  have h5 : lowL l[i].1 l = l.take i := (congrArg (lowL l[i].1) e).trans <| by
    unfold lowL
    rw [List.filter_append, h1, List.filter_cons, if_neg (by simp [cmpB_self]), h2, List.append_nil]
  rw [h5, List.length_take]
  omega
theorem Put_x (lo klo khi vlo vhi n : Nat) (t : T) (k v : List UInt8) (p kv vv : Value) (w : World) (hlo : lo ≤ w.heap.size) (ht : Tr Nn lo w t p) (hk : Bytes klo khi w kv k) (hv : Bytes vlo vhi w vv v)
    (hkhi : khi ≤ w.heap.size) (hvhi : vhi ≤ w.heap.size) (hg : Gr t n) (hm : n ≤ 1000000) (h1 : k.length ≤ 4096) (h2 : v.length ≤ 65536) :
    Calls Try.prog 10 #[p, kv, vv] w fun e w' => ∃ b, e = .returned (.tuple #[.pointer (some b), .int .i64 0]) ∧ Below w.heap.size w w' ∧ lo ≤ w'.heap.size ∧ Tr Nn lo w' (t.put k v) (.pointer (some b)) :=
  Put_any Nn lo klo khi vlo vhi t k v p kv vv w (Nn.lt lo) hlo ht hk hv hkhi hvhi (Nat.le_trans hg.many hm) _ (fun h => by omega)
    (fun _ _ w' b hB hlo' ht' => ⟨b, rfl, hB, hlo', ht'⟩)

set_option maxRecDepth 100000 in
set_option maxHeartbeats 8000000 in
theorem TreeOrder_any (lo hi : Nat) (l : List OpV) (v : Value) (w : World) (hv : Sl opE 6 lo hi w v l) (hhi : hi ≤ w.heap.size)
    (R : Ending → World → Prop) (hR : ∀ w', Below w.heap.size w w' → R (.returned (.bool true)) w') : Calls Try.prog 5 #[v] w R := by
  have HR := Lib.hid hR
  have Hv := Lib.hid hv
  obtain ⟨ao, cap, rfl, -, -, -, -⟩ := hv.form
  clear hv hR
  go_enter Try.func5, Try.ntmps5
  go_wp2_with fail
  refine alive_any w _ (fun w1 hB1 => ?_)
  have HB1 := Lib.hid hB1
  have Hv1 := Lib.hid (Sl.below Hv.out opE_loc hB1 hhi)
  have hs1 := hB1.size
  have hr1 := HR.out w1 hB1
  have hhi1 : hi ≤ w1.heap.size := Nat.le_trans hhi hs1
  clear hB1 Hv
  go_wp2_with fail
  refine great_any lo hi l _ w1 Hv1.out _ ?_
  by_cases hgr : (decide (100 < l.length) || l.any OpV.great) = true
  · rw [hgr]
    go_wp2_with fail
    all_goals first | exact hr1 | exact fin hr1 rfl
  rw [Bool.not_eq_true] at hgr
  rw [hgr]
  have hll : l.length ≤ 100 := by
    simp only [Bool.or_eq_false_iff, decide_eq_false_iff_not] at hgr; omega
  clear hgr hr1
  go_wp2_with fail
  refine grown_any lo hi l _ w1 Hv1.out hhi1 hll _ (fun w2 p2 t hB2 ht2 hg2 => ?_)
  obtain ⟨q2, rfl⟩ := ht2.ptr2
  have hs2 := hB2.size
  have hmany : t.many ≤ 100 := Nat.le_trans hg2.many hll
  have hall : rangeL [] 1000 (t.from []) = t.toL := by
    rw [rangeL_all 1000 (t.from []) (by have := t.from_len []; omega), from_nil t hg2.rises]
  have Hall := Lib.hid hall
  have HB2 := Lib.hid (HB1.out.trans (hB2.mono hs1))
  have Ht2 := Lib.hid ht2
  have Hg2 := Lib.hid (hg2.mono hll)
  have hm6 : t.many ≤ 1000000 := by omega
  have hlen : t.toL.length = t.many := t.many_toL
  clear hB2 ht2 hg2 hall
  go_wp2_with fail
  refine Range_any Nn w1.heap.size 0 0 0 0 t [] [] (.pointer q2) (.slice none 0 0) (.slice none 0 0) 1000 w2 (Nn.lt _) hs2 Ht2.out (Sl.nil _ _ _ _ _) (Nat.zero_le _) (Sl.nil _ _ _ _ _) (Nat.zero_le _) hm6 Hg2.out.len8 _ (fun w3 va psa hB3 hPa => ?_)
  rw [Hall.out] at hPa
  obtain ⟨all, eall⟩ : ∃ x, x = t.toL := ⟨_, rfl⟩
  rw [← eall] at hPa hlen
  have Hri : Hid (Rises all) := Lib.hid (by rw [eall]; exact Hg2.out.rises)
  have Hln : Hid (∀ x ∈ all, x.1.length ≤ 4096 ∧ x.2.length ≤ 65536) := Lib.hid (by rw [eall]; exact Hg2.out.lens)
  have Heall := Lib.hid eall
  obtain ⟨pa, ca, rfl⟩ := hPa.form
  have hs3 := hB3.size
  have HPa := Lib.hid hPa
  have Ht3 := Lib.hid (Ht2.out.step (Nn.lt _) hs2 hB3)
  have HB3 := Lib.hid (HB2.out.trans (hB3.mono HB2.out.size))
  have hs13 : w1.heap.size ≤ w3.heap.size := Nat.le_trans hs2 hs3
  have hal : all.length ≤ 100 := by omega
  have Hlen := Lib.hid hlen
  have wrl : IntKind.i64.wrap ((all.length : Int) - 1) = (all.length : Int) - 1 := by
    by_cases h0 : all.length = 0
    · rw [h0]; rfl
    · exact wrap_ok (by omega) (by omega)
  clear hPa hB3 eall Ht2 HB2 Hall hlen
  go_wp2_with fail
  clear wrl
  go_loopw [6, 7] (fun t6 t7 wr => ∃ (n : Nat) (bt : T), n ≤ all.length ∧ t7 = .int .i64 ((n : Int) - 1) ∧ Below w3.heap.size w3 wr ∧ Tr Nn w1.heap.size wr bt t6 ∧ Gr bt (all.length - n) ∧ bt.toL = all.drop n) (fun _ t7 _ => (intOf t7 + 1).toNat)
  case atStart => exact ⟨all.length, .nil, Nat.le_refl _, rfl, Below.refl _ _, .inl ⟨rfl, rfl⟩, by rw [Nat.sub_self]; exact Gr.nil, by rw [List.drop_length]; rfl⟩
  case round =>
    obtain ⟨n, bt, hn, rfl, hB, hb, hg, hd⟩ := hrel
    have HB := Lib.hid hB
    have Hb := Lib.hid hb
    have Hg := Lib.hid hg
    have Hd := Lib.hid hd
    obtain ⟨qb, rfl⟩ := hb.ptr2
    have hsb := hB.size
    clear hB hb hg hd
    cases n with
    | zero =>
      rw [show ((0 : Nat) : Int) - 1 = -1 by rfl]
      have eq1 : t.toL = bt.toL := by rw [Hd.out, List.drop_zero, Heall.out]
      have Hgb := Lib.hid (Hg.out.mono (show all.length - 0 ≤ 100 by omega))
      have hbm : bt.many = all.length := by rw [← T.many_toL, ← eq1, T.many_toL, Hlen.out]
      have Hbm := Lib.hid hbm
      have Hbl := Lib.hid (show bt.toL = all by rw [← eq1, Heall.out])
      have Ht4 := Lib.hid (Ht3.out.step (Nn.lt _) hs13 HB.out)
      obtain ⟨wq, ewq⟩ : ∃ x, x = wr := ⟨_, rfl⟩
      subst ewq
      clear hbm Hg Hd
      go_wp2_with fail
      refine equal_same w1.heap.size 100 100 t bt _ _ wq (Nat.le_trans hs13 hsb) Ht4.out Hb.out Hg2.out Hgb.out (by omega) (by omega) eq1 _ (fun w5 hB5 => ?_)
      have hs5 := hB5.size
      have Ht5 := Lib.hid (Ht4.out.step (Nn.lt _) (Nat.le_trans hs13 hsb) hB5)
      have Hb5 := Lib.hid (Hb.out.step (Nn.lt _) (Nat.le_trans hs13 hsb) hB5)
      have hB35 := HB.out.trans (hB5.mono hsb)
      have HB5 := Lib.hid (HB3.out.trans (hB35.mono HB3.out.size))
      have HPa5 := Lib.hid (HPa.out.below hB35)
      have hs15 : w1.heap.size ≤ w5.heap.size := by omega
      clear hB5 hB35 Ht4 Hb HB eq1 HPa Ht3 HB3
      go_wp2_with fail
      refine Len_any Nn w1.heap.size t _ w5 Ht5.out _ ?_
      rw [← Hlen.out]
      go_wp2_with fail
      go_loopw [63] (fun t63 wr => ∃ i : Nat, i ≤ all.length ∧ t63 = .int .i64 (i : Int) ∧ Below w5.heap.size w5 wr) (fun t63 _ => all.length - (intOf t63).toNat)
      case atStart => exact ⟨0, Nat.zero_le _, rfl, Below.refl _ _⟩
      case round =>
        obtain ⟨i, hi, rfl, hB⟩ := hrel
        have HB := Lib.hid hB
        have hsb5 := hB.size
        have Ht6 := Lib.hid (Ht5.out.step (Nn.lt _) hs15 hB)
        have Hb6 := Lib.hid (Hb5.out.step (Nn.lt _) hs15 hB)
        have HPa6 := Lib.hid (HPa5.out.below hB)
        have hs16 : w1.heap.size ≤ wr.heap.size := Nat.le_trans hs15 hsb5
        have i0 : (0 : Int) ≤ (i : Int) := by omega
        clear hB
        by_cases hi2 : i < all.length
        · have il : (i : Int) < (all.length : Int) := by omega
          go_wp2_with fail
          refine At_any Nn w1.heap.size bt (i : Int) _ wr (Nn.lt _) hs16 Hb6.out (by rw [Hbm.out]; omega) Hgb.out.len8 _ (fun hno => absurd hno (by rw [Hbm.out]; omega)) (fun n en hn w6 k2 v2 hB6 ho1 ho2 _ => ?_)
          have hni : n = i := by omega
          subst hni
          clear en
          have hat : bt.at n = all[n] := Option.some.inj (by rw [← T.at_eq bt n hn, Hbl.out, List.getElem?_eq_getElem hi2])
          rw [hat] at ho1 ho2
          obtain ⟨a1, c1, rfl, -, -, -⟩ := (OwnB.bytes ho1).form
          obtain ⟨a2, c2, rfl, -, -, -⟩ := (OwnB.bytes ho2).form
          have hBX : Below w6.heap.size w6 (w6.alloc (.cells #[.slice a1 all[n].1.length c1, .slice a2 all[n].2.length c2] 43)) := (Below.refl _ _).alloc (Nat.le_refl _) _
          have hs6 := hB6.size
          have hBr8 := hB6.trans (hBX.mono hs6)
          have Ht8 := Lib.hid (Ht6.out.step (Nn.lt _) hs16 hBr8)
          have HP8 := Lib.hid (HPa6.out.below hBr8)
          have HB8 := Lib.hid (HB.out.trans (hBr8.mono hsb5))
          have Hx1 := Lib.hid (Sl.mono ((OwnB.bytes ho1).below (flat_loc _) hBX (Nat.le_refl _)) (flat_loc _) (Nat.zero_le _) hBX.size)
          have Hx2 := Lib.hid (Sl.mono ((OwnB.bytes ho2).below (flat_loc _) hBX (Nat.le_refl _)) (flat_loc _) (Nat.zero_le _) hBX.size)
          have Hbs := Lib.hid (Blk.new w6 [.slice a1 all[n].1.length c1, .slice a2 all[n].2.length c2] 43 rfl)
          have hs68 : w6.heap.size < (w6.alloc (.cells #[.slice a1 all[n].1.length c1, .slice a2 all[n].2.length c2] 43)).heap.size := by simp
          have hs18 : w1.heap.size ≤ (w6.alloc (.cells #[.slice a1 all[n].1.length c1, .slice a2 all[n].2.length c2] 43)).heap.size := by omega
          clear hat hB6 ho1 ho2 hBX hBr8 Ht6 Hb6 HPa6 HB hn
          go_wp2_with fail
          generalize w6.alloc (.cells #[.slice a1 all[n].1.length c1, .slice a2 all[n].2.length c2] 43) = w8 at *
          obtain ⟨s0, s1⟩ := Hbs.out.cells.c2
          obtain ⟨g, b1, d1, b2, d2, rfl, hg8, g0, g1, hg0, hg1⟩ := HP8.out.at n hi2
          have Hg0 := Lib.hid hg0
          have Hg1 := Lib.hid hg1
          have hrk : t.rank all[n].1 = n := by rw [T.rank_eq _ _ (by rw [← Heall.out]; exact Hri.out), ← Heall.out, rank_at Hri.out n hi2]
          have Hrk := Lib.hid hrk
          clear hg0 hg1 hrk Hbs
          have hcp : ∀ w', Below w8.heap.size w8 w' → w'.cell? ⟨w6.heap.size, 0, none⟩ = some (.slice a1 all[n].1.length c1) ∧ w'.cell? ⟨w6.heap.size, 1, none⟩ = some (.slice a2 all[n].2.length c2) := fun w' h =>
            ⟨(World.cell?_of_block (h.block _ hs68)).trans s0, (World.cell?_of_block (h.block _ hs68)).trans s1⟩
          have hce : ∀ w', Below w8.heap.size w8 w' → w'.cell? ⟨g, n * 2, none⟩ = some (.slice b1 all[n].1.length d1) ∧ w'.cell? ⟨g, n * 2 + 1, none⟩ = some (.slice b2 all[n].2.length d2) := fun w' h =>
            ⟨(World.cell?_of_block (h.block _ hg8)).trans g0, (World.cell?_of_block (h.block _ hg8)).trans g1⟩
          have hd8 : Below w8.heap.size w8 w8.drew := Below.drew (Below.refl _ _)
          clear s0 s1 g0 g1
          by_cases hn0 : n = 0
          · have Hn0 := Lib.hid hn0
            have hcv : ∀ w', Below w8.heap.size w8 w' → (convert 30 9 (.slice b1 all[n].1.length d1)).run Try.prog w' = .ok (.string ⟨all[n].1.toArray⟩) w' ∧ (convert 30 9 (.slice b2 all[n].2.length d2)).run Try.prog w' = .ok (.string ⟨all[n].2.toArray⟩) w' ∧ True := fun w' h => ⟨str (Sl.below Hg0.out (flat_loc _) h (Nat.le_refl _)), str (Sl.below Hg1.out (flat_loc _) h (Nat.le_refl _)), trivial⟩
            clear hn0
            refine wp_region_held_drew (S := fun w' => Below w8.heap.size w8 w') (by kernel_rfl) hd8 (fun hHeld => ?_)
            refine wpAnyH_take (i := 0) (v := .agg #[.slice a1 all[n].1.length c1, .slice a2 all[n].2.length c2]) rfl (by kernel_rfl) (by kernel_rfl) (by kernel_rfl) (fun _ _ _ h => h) (Or.inl ⟨by rfl, ?_⟩) hHeld ?_
            · intro w' hSw; obtain ⟨k0, k1⟩ := hcp w' hSw; go_simp
            try simp only [Act.put, List.getElem_toArray, List.getElem_cons_succ, List.getElem_cons_zero, List.setIfInBounds_toArray, List.set_cons_zero, List.set_cons_succ]
            refine wpAnyH_take (i := 1) (v := .bool true) rfl (by kernel_rfl) (by kernel_rfl) (by kernel_rfl) (fun _ _ _ h => h) (Or.inl ⟨by rfl, ?_⟩) hHeld ?_
            · intro w' hSw; go_simp
            try simp only [Act.put, List.getElem_toArray, List.getElem_cons_succ, List.getElem_cons_zero, List.setIfInBounds_toArray, List.set_cons_zero, List.set_cons_succ]
            refine wpAnyH_take (i := 2) (v := .slice (some ⟨g, 0, none⟩) all.length ca) rfl (by kernel_rfl) (by kernel_rfl) (by kernel_rfl) (fun _ _ _ h => h) (Or.inl ⟨by rfl, ?_⟩) hHeld ?_
            · intro w' hSw; go_simp
            try simp only [Act.put, List.getElem_toArray, List.getElem_cons_succ, List.getElem_cons_zero, List.setIfInBounds_toArray, List.set_cons_zero, List.set_cons_succ]
            refine wpAnyH_take (i := 3) (v := .int .i64 (n : Int)) rfl (by kernel_rfl) (by kernel_rfl) (by kernel_rfl) (fun _ _ _ h => h) (Or.inl ⟨by rfl, ?_⟩) hHeld ?_
            · intro w' hSw; go_simp
            try simp only [Act.put, List.getElem_toArray, List.getElem_cons_succ, List.getElem_cons_zero, List.setIfInBounds_toArray, List.set_cons_zero, List.set_cons_succ]
            refine wpAnyH_take (i := 4) (v := .pointer (some ⟨g, n * 2, none⟩)) rfl (by kernel_rfl) (by kernel_rfl) (by kernel_rfl) (fun _ _ _ h => h) (Or.inl ⟨by rfl, ?_⟩) hHeld ?_
            · intro w' hSw; go_simp
            try simp only [Act.put, List.getElem_toArray, List.getElem_cons_succ, List.getElem_cons_zero, List.setIfInBounds_toArray, List.set_cons_zero, List.set_cons_succ]
            refine wpAnyH_take (i := 5) (v := .pointer (some ⟨g, n * 2, none⟩)) rfl (by kernel_rfl) (by kernel_rfl) (by kernel_rfl) (fun _ _ _ h => h) (Or.inl ⟨by rfl, ?_⟩) hHeld ?_
            · intro w' hSw; go_simp
            try simp only [Act.put, List.getElem_toArray, List.getElem_cons_succ, List.getElem_cons_zero, List.setIfInBounds_toArray, List.set_cons_zero, List.set_cons_succ]
            refine wpAnyH_take (i := 6) (v := .slice b1 all[n].1.length d1) rfl (by kernel_rfl) (by kernel_rfl) (by kernel_rfl) (fun _ _ _ h => h) (Or.inl ⟨by rfl, ?_⟩) hHeld ?_
            · intro w' hSw; obtain ⟨k0, k1⟩ := hce w' hSw; go_simp
            try simp only [Act.put, List.getElem_toArray, List.getElem_cons_succ, List.getElem_cons_zero, List.setIfInBounds_toArray, List.set_cons_zero, List.set_cons_succ]
            refine wpAnyH_take (i := 7) (v := .string ⟨all[n].1.toArray⟩) rfl (by kernel_rfl) (by kernel_rfl) (by kernel_rfl) (fun _ _ _ h => h) (Or.inl ⟨by rfl, ?_⟩) hHeld ?_
            · intro w' hSw; have kx := (hcv w' hSw).1; go_simp
            try simp only [Act.put, List.getElem_toArray, List.getElem_cons_succ, List.getElem_cons_zero, List.setIfInBounds_toArray, List.set_cons_zero, List.set_cons_succ]
            refine wpAnyH_take (i := 8) (v := .slice (some ⟨g, 0, none⟩) all.length ca) rfl (by kernel_rfl) (by kernel_rfl) (by kernel_rfl) (fun _ _ _ h => h) (Or.inl ⟨by rfl, ?_⟩) hHeld ?_
            · intro w' hSw; go_simp
            try simp only [Act.put, List.getElem_toArray, List.getElem_cons_succ, List.getElem_cons_zero, List.setIfInBounds_toArray, List.set_cons_zero, List.set_cons_succ]
            refine wpAnyH_take (i := 9) (v := .int .i64 (n : Int)) rfl (by kernel_rfl) (by kernel_rfl) (by kernel_rfl) (fun _ _ _ h => h) (Or.inl ⟨by rfl, ?_⟩) hHeld ?_
            · intro w' hSw; go_simp
            try simp only [Act.put, List.getElem_toArray, List.getElem_cons_succ, List.getElem_cons_zero, List.setIfInBounds_toArray, List.set_cons_zero, List.set_cons_succ]
            refine wpAnyH_take (i := 10) (v := .pointer (some ⟨g, n * 2, none⟩)) rfl (by kernel_rfl) (by kernel_rfl) (by kernel_rfl) (fun _ _ _ h => h) (Or.inl ⟨by rfl, ?_⟩) hHeld ?_
            · intro w' hSw; go_simp
            try simp only [Act.put, List.getElem_toArray, List.getElem_cons_succ, List.getElem_cons_zero, List.setIfInBounds_toArray, List.set_cons_zero, List.set_cons_succ]
            refine wpAnyH_take (i := 11) (v := .pointer (some ⟨g, n * 2 + 1, none⟩)) rfl (by kernel_rfl) (by kernel_rfl) (by kernel_rfl) (fun _ _ _ h => h) (Or.inl ⟨by rfl, ?_⟩) hHeld ?_
            · intro w' hSw; go_simp
            try simp only [Act.put, List.getElem_toArray, List.getElem_cons_succ, List.getElem_cons_zero, List.setIfInBounds_toArray, List.set_cons_zero, List.set_cons_succ]
            refine wpAnyH_take (i := 12) (v := .slice b2 all[n].2.length d2) rfl (by kernel_rfl) (by kernel_rfl) (by kernel_rfl) (fun _ _ _ h => h) (Or.inl ⟨by rfl, ?_⟩) hHeld ?_
            · intro w' hSw; obtain ⟨k0, k1⟩ := hce w' hSw; go_simp
            try simp only [Act.put, List.getElem_toArray, List.getElem_cons_succ, List.getElem_cons_zero, List.setIfInBounds_toArray, List.set_cons_zero, List.set_cons_succ]
            refine wpAnyH_take (i := 13) (v := .string ⟨all[n].2.toArray⟩) rfl (by kernel_rfl) (by kernel_rfl) (by kernel_rfl) (fun _ _ _ h => h) (Or.inl ⟨by rfl, ?_⟩) hHeld ?_
            · intro w' hSw; have kx := (hcv w' hSw).2.1; go_simp
            try simp only [Act.put, List.getElem_toArray, List.getElem_cons_succ, List.getElem_cons_zero, List.setIfInBounds_toArray, List.set_cons_zero, List.set_cons_succ]
            refine wpAnyH_ready (rs := [14]) (by kernel_rfl) (by simp) ?_
            refine allCall (f := 19) (args := #[.agg #[.slice a1 all[n].1.length c1, .slice a2 all[n].2.length c2], .bool true, .string ⟨all[n].1.toArray⟩, .string ⟨all[n].2.toArray⟩]) rfl (by kernel_rfl) ?_ ?_ AllReadyH.nil
            · kernel_rfl
            · refine told_any 0 w8.heap.size _ _ all[n].1 all[n].2 all[n].1 all[n].2 true w8.drew (Sl.below Hx1.out (flat_loc _) hd8 (Nat.le_refl _)) (Sl.below Hx2.out (flat_loc _) hd8 (Nat.le_refl _)) (Nat.le_refl _) _ (fun w9 hB9 => ?_)
              rw [beq_self_eq_true, beq_self_eq_true]
              have hB89 : Below w8.heap.size w8 w9 := hd8.trans hB9
              refine ⟨_, rfl, hB89, ?_⟩
              have hHeld := hB89
              try simp only [Act.put, List.getElem_toArray, List.getElem_cons_succ, List.getElem_cons_zero, List.setIfInBounds_toArray, List.set_cons_zero, List.set_cons_succ]
              refine wpAnyH_take (i := 15) (v := .bool false) rfl (by kernel_rfl) (by kernel_rfl) (by kernel_rfl) (fun _ _ _ h => h) (Or.inl ⟨by rfl, ?_⟩) hHeld ?_
              · intro w' hSw; go_simp
              try simp only [Act.put, List.getElem_toArray, List.getElem_cons_succ, List.getElem_cons_zero, List.setIfInBounds_toArray, List.set_cons_zero, List.set_cons_succ]
              refine wpAnyH_take (i := 16) (v := .bool false) rfl (by kernel_rfl) (by kernel_rfl) (by kernel_rfl) (fun _ _ _ h => h) (Or.inl ⟨by rfl, ?_⟩) hHeld ?_
              · intro w' hSw; go_simp
              try simp only [Act.put, List.getElem_toArray, List.getElem_cons_succ, List.getElem_cons_zero, List.setIfInBounds_toArray, List.set_cons_zero, List.set_cons_succ]
              refine wpAnyH_take (i := 17) (v := .pointer q2) rfl (by kernel_rfl) (by kernel_rfl) (by kernel_rfl) (fun _ _ _ h => h) (Or.inl ⟨by rfl, ?_⟩) hHeld ?_
              · intro w' hSw; go_simp
              try simp only [Act.put, List.getElem_toArray, List.getElem_cons_succ, List.getElem_cons_zero, List.setIfInBounds_toArray, List.set_cons_zero, List.set_cons_succ]
              refine wpAnyH_take (i := 18) (v := .slice (some ⟨g, 0, none⟩) all.length ca) rfl (by kernel_rfl) (by kernel_rfl) (by kernel_rfl) (fun _ _ _ h => h) (Or.inl ⟨by rfl, ?_⟩) hHeld ?_
              · intro w' hSw; go_simp
              try simp only [Act.put, List.getElem_toArray, List.getElem_cons_succ, List.getElem_cons_zero, List.setIfInBounds_toArray, List.set_cons_zero, List.set_cons_succ]
              refine wpAnyH_take (i := 19) (v := .int .i64 (n : Int)) rfl (by kernel_rfl) (by kernel_rfl) (by kernel_rfl) (fun _ _ _ h => h) (Or.inl ⟨by rfl, ?_⟩) hHeld ?_
              · intro w' hSw; go_simp
              try simp only [Act.put, List.getElem_toArray, List.getElem_cons_succ, List.getElem_cons_zero, List.setIfInBounds_toArray, List.set_cons_zero, List.set_cons_succ]
              refine wpAnyH_take (i := 20) (v := .pointer (some ⟨g, n * 2, none⟩)) rfl (by kernel_rfl) (by kernel_rfl) (by kernel_rfl) (fun _ _ _ h => h) (Or.inl ⟨by rfl, ?_⟩) hHeld ?_
              · intro w' hSw; go_simp
              try simp only [Act.put, List.getElem_toArray, List.getElem_cons_succ, List.getElem_cons_zero, List.setIfInBounds_toArray, List.set_cons_zero, List.set_cons_succ]
              refine wpAnyH_take (i := 21) (v := .pointer (some ⟨g, n * 2, none⟩)) rfl (by kernel_rfl) (by kernel_rfl) (by kernel_rfl) (fun _ _ _ h => h) (Or.inl ⟨by rfl, ?_⟩) hHeld ?_
              · intro w' hSw; go_simp
              try simp only [Act.put, List.getElem_toArray, List.getElem_cons_succ, List.getElem_cons_zero, List.setIfInBounds_toArray, List.set_cons_zero, List.set_cons_succ]
              refine wpAnyH_take (i := 22) (v := .slice b1 all[n].1.length d1) rfl (by kernel_rfl) (by kernel_rfl) (by kernel_rfl) (fun _ _ _ h => h) (Or.inl ⟨by rfl, ?_⟩) hHeld ?_
              · intro w' hSw; obtain ⟨k0, k1⟩ := hce w' hSw; go_simp
              try simp only [Act.put, List.getElem_toArray, List.getElem_cons_succ, List.getElem_cons_zero, List.setIfInBounds_toArray, List.set_cons_zero, List.set_cons_succ]
              refine wpAnyH_take (i := 24) (v := .int .i64 (n : Int)) rfl (by kernel_rfl) (by kernel_rfl) (by kernel_rfl) (fun _ _ _ h => h) (Or.inl ⟨by rfl, ?_⟩) hHeld ?_
              · intro w' hSw; go_simp
              try simp only [Act.put, List.getElem_toArray, List.getElem_cons_succ, List.getElem_cons_zero, List.setIfInBounds_toArray, List.set_cons_zero, List.set_cons_succ]
              refine wpAnyH_ready (rs := [23]) (by kernel_rfl) (by simp) ?_
              refine allCall (f := 15) (args := #[.pointer q2, .slice b1 all[n].1.length d1]) rfl (by kernel_rfl) ?_ ?_ AllReadyH.nil
              · kernel_rfl
              · refine Rank_any Nn w1.heap.size w2.heap.size w8.heap.size t all[n].1 (.pointer q2) _ w9 (Ht8.out.step (Nn.lt _) hs18 hB89) (Sl.below Hg0.out (flat_loc _) hB89 (Nat.le_refl _)) hm6 _ ?_
                rw [Hrk.out]
                refine ⟨_, rfl, hB89, ?_⟩
                try simp only [Act.put, List.getElem_toArray, List.getElem_cons_succ, List.getElem_cons_zero, List.setIfInBounds_toArray, List.set_cons_zero, List.set_cons_succ]
                refine wpAnyH_take (i := 25) (v := .bool false) rfl (by kernel_rfl) (by kernel_rfl) (by kernel_rfl) (fun _ _ _ h => h) (Or.inl ⟨by rfl, ?_⟩) hHeld ?_
                · intro w' hSw; go_simp
                try simp only [Act.put, List.getElem_toArray, List.getElem_cons_succ, List.getElem_cons_zero, List.setIfInBounds_toArray, List.set_cons_zero, List.set_cons_succ]
                refine wpAnyH_take (i := 26) (v := .bool false) rfl (by kernel_rfl) (by kernel_rfl) (by kernel_rfl) (fun _ _ _ h => h) (Or.inl ⟨by rfl, ?_⟩) hHeld ?_
                · intro w' hSw; go_simp
                try simp only [Act.put, List.getElem_toArray, List.getElem_cons_succ, List.getElem_cons_zero, List.setIfInBounds_toArray, List.set_cons_zero, List.set_cons_succ]
                refine wpAnyH_take (i := 27) (v := .bool false) rfl (by kernel_rfl) (by kernel_rfl) (by kernel_rfl) (fun _ _ _ h => h) (Or.inl ⟨by rfl, ?_⟩) hHeld ?_
                · intro w' hSw; go_simp
                try simp only [Act.put, List.getElem_toArray, List.getElem_cons_succ, List.getElem_cons_zero, List.setIfInBounds_toArray, List.set_cons_zero, List.set_cons_succ]
                refine wpAnyH_take (i := 28) (v := .int .i64 (n : Int)) rfl (by kernel_rfl) (by kernel_rfl) (by kernel_rfl) (fun _ _ _ h => h) (Or.inl ⟨by rfl, ?_⟩) hHeld ?_
                · intro w' hSw; go_simp
                try simp only [Act.put, List.getElem_toArray, List.getElem_cons_succ, List.getElem_cons_zero, List.setIfInBounds_toArray, List.set_cons_zero, List.set_cons_succ]
                refine wpAnyH_take (i := 29) (v := .bool false) rfl (by kernel_rfl) (by kernel_rfl) (by kernel_rfl) (fun _ _ _ h => h) (Or.inl ⟨by rfl, ?_⟩) hHeld ?_
                · intro w' hSw; go_simp; exact Hn0.out
                try simp only [Act.put, List.getElem_toArray, List.getElem_cons_succ, List.getElem_cons_zero, List.setIfInBounds_toArray, List.set_cons_zero, List.set_cons_succ]
                refine wpAnyH_take (i := 30) (v := .bool false) rfl (by kernel_rfl) (by kernel_rfl) (by kernel_rfl) (fun _ _ _ h => h) (Or.inl ⟨by rfl, ?_⟩) hHeld ?_
                · intro w' hSw; go_simp
                try simp only [Act.put, List.getElem_toArray, List.getElem_cons_succ, List.getElem_cons_zero, List.setIfInBounds_toArray, List.set_cons_zero, List.set_cons_succ]
                refine wpAnyH_take (i := 31) (v := undef) rfl (by kernel_rfl) (by kernel_rfl) (by kernel_rfl) (fun _ _ _ h => h) (Or.inr ⟨by kernel_rfl, rfl⟩) hHeld ?_
                try simp only [Act.put, List.getElem_toArray, List.getElem_cons_succ, List.getElem_cons_zero, List.setIfInBounds_toArray, List.set_cons_zero, List.set_cons_succ]
                refine wpAnyH_take (i := 32) (v := undef) rfl (by kernel_rfl) (by kernel_rfl) (by kernel_rfl) (fun _ _ _ h => h) (Or.inr ⟨by kernel_rfl, rfl⟩) hHeld ?_
                try simp only [Act.put, List.getElem_toArray, List.getElem_cons_succ, List.getElem_cons_zero, List.setIfInBounds_toArray, List.set_cons_zero, List.set_cons_succ]
                refine wpAnyH_take (i := 33) (v := undef) rfl (by kernel_rfl) (by kernel_rfl) (by kernel_rfl) (fun _ _ _ h => h) (Or.inr ⟨by kernel_rfl, rfl⟩) hHeld ?_
                try simp only [Act.put, List.getElem_toArray, List.getElem_cons_succ, List.getElem_cons_zero, List.setIfInBounds_toArray, List.set_cons_zero, List.set_cons_succ]
                refine wpAnyH_take (i := 34) (v := undef) rfl (by kernel_rfl) (by kernel_rfl) (by kernel_rfl) (fun _ _ _ h => h) (Or.inr ⟨by kernel_rfl, rfl⟩) hHeld ?_
                try simp only [Act.put, List.getElem_toArray, List.getElem_cons_succ, List.getElem_cons_zero, List.setIfInBounds_toArray, List.set_cons_zero, List.set_cons_succ]
                refine wpAnyH_take (i := 35) (v := undef) rfl (by kernel_rfl) (by kernel_rfl) (by kernel_rfl) (fun _ _ _ h => h) (Or.inr ⟨by kernel_rfl, rfl⟩) hHeld ?_
                try simp only [Act.put, List.getElem_toArray, List.getElem_cons_succ, List.getElem_cons_zero, List.setIfInBounds_toArray, List.set_cons_zero, List.set_cons_succ]
                refine wpAnyH_take (i := 36) (v := undef) rfl (by kernel_rfl) (by kernel_rfl) (by kernel_rfl) (fun _ _ _ h => h) (Or.inr ⟨by kernel_rfl, rfl⟩) hHeld ?_
                try simp only [Act.put, List.getElem_toArray, List.getElem_cons_succ, List.getElem_cons_zero, List.setIfInBounds_toArray, List.set_cons_zero, List.set_cons_succ]
                refine wpAnyH_take (i := 37) (v := undef) rfl (by kernel_rfl) (by kernel_rfl) (by kernel_rfl) (fun _ _ _ h => h) (Or.inr ⟨by kernel_rfl, rfl⟩) hHeld ?_
                try simp only [Act.put, List.getElem_toArray, List.getElem_cons_succ, List.getElem_cons_zero, List.setIfInBounds_toArray, List.set_cons_zero, List.set_cons_succ]
                refine wpAnyH_take (i := 38) (v := undef) rfl (by kernel_rfl) (by kernel_rfl) (by kernel_rfl) (fun _ _ _ h => h) (Or.inr ⟨by kernel_rfl, rfl⟩) hHeld ?_
                try simp only [Act.put, List.getElem_toArray, List.getElem_cons_succ, List.getElem_cons_zero, List.setIfInBounds_toArray, List.set_cons_zero, List.set_cons_succ]
                refine wpAnyH_take (i := 39) (v := undef) rfl (by kernel_rfl) (by kernel_rfl) (by kernel_rfl) (fun _ _ _ h => h) (Or.inr ⟨by kernel_rfl, rfl⟩) hHeld ?_
                try simp only [Act.put, List.getElem_toArray, List.getElem_cons_succ, List.getElem_cons_zero, List.setIfInBounds_toArray, List.set_cons_zero, List.set_cons_succ]
                refine wpAnyH_take (i := 40) (v := undef) rfl (by kernel_rfl) (by kernel_rfl) (by kernel_rfl) (fun _ _ _ h => h) (Or.inr ⟨by kernel_rfl, rfl⟩) hHeld ?_
                try simp only [Act.put, List.getElem_toArray, List.getElem_cons_succ, List.getElem_cons_zero, List.setIfInBounds_toArray, List.set_cons_zero, List.set_cons_succ]
                refine wpAnyH_take (i := 41) (v := undef) rfl (by kernel_rfl) (by kernel_rfl) (by kernel_rfl) (fun _ _ _ h => h) (Or.inr ⟨by kernel_rfl, rfl⟩) hHeld ?_
                try simp only [Act.put, List.getElem_toArray, List.getElem_cons_succ, List.getElem_cons_zero, List.setIfInBounds_toArray, List.set_cons_zero, List.set_cons_succ]
                refine wpAnyH_take (i := 42) (v := undef) rfl (by kernel_rfl) (by kernel_rfl) (by kernel_rfl) (fun _ _ _ h => h) (Or.inr ⟨by kernel_rfl, rfl⟩) hHeld ?_
                try simp only [Act.put, List.getElem_toArray, List.getElem_cons_succ, List.getElem_cons_zero, List.setIfInBounds_toArray, List.set_cons_zero, List.set_cons_succ]
                refine wpAnyH_take (i := 43) (v := undef) rfl (by kernel_rfl) (by kernel_rfl) (by kernel_rfl) (fun _ _ _ h => h) (Or.inr ⟨by kernel_rfl, rfl⟩) hHeld ?_
                try simp only [Act.put, List.getElem_toArray, List.getElem_cons_succ, List.getElem_cons_zero, List.setIfInBounds_toArray, List.set_cons_zero, List.set_cons_succ]
                refine wpAnyH_take (i := 44) (v := undef) rfl (by kernel_rfl) (by kernel_rfl) (by kernel_rfl) (fun _ _ _ h => h) (Or.inr ⟨by kernel_rfl, rfl⟩) hHeld ?_
                try simp only [Act.put, List.getElem_toArray, List.getElem_cons_succ, List.getElem_cons_zero, List.setIfInBounds_toArray, List.set_cons_zero, List.set_cons_succ]
                refine wpAnyH_take (i := 45) (v := .bool false) rfl (by kernel_rfl) (by kernel_rfl) (by kernel_rfl) (fun _ _ _ h => h) (Or.inl ⟨by rfl, ?_⟩) hHeld ?_
                · intro w' hSw; go_simp
                try simp only [Act.put, List.getElem_toArray, List.getElem_cons_succ, List.getElem_cons_zero, List.setIfInBounds_toArray, List.set_cons_zero, List.set_cons_succ]
                refine wpAnyH_take (i := 46) (v := .bool false) rfl (by kernel_rfl) (by kernel_rfl) (by kernel_rfl) (fun _ _ _ h => h) (Or.inl ⟨by rfl, ?_⟩) hHeld ?_
                · intro w' hSw; go_simp
                try simp only [Act.put, List.getElem_toArray, List.getElem_cons_succ, List.getElem_cons_zero, List.setIfInBounds_toArray, List.set_cons_zero, List.set_cons_succ]
                refine wpAnyH_done (by kernel_rfl) ?_ _
                clear hHeld
                have hBn := HB8.out.trans (hB89.mono HB8.out.size)
                have HBn := Lib.hid hBn
                clear hBn
                go_wp2_with fail
                go_roundw
                case rel => exact ⟨n + 1, by omega, by go_num, HBn.out⟩
                case measure => first | (simp [intOf]; done) | (simp [intOf]; omega)
          · obtain ⟨j, hj⟩ : ∃ j, n = j + 1 := ⟨n - 1, by omega⟩
            have hjl : j < all.length := by omega
            obtain ⟨g', b3, d3, b4, d4, eg, -, j0, -, hj0, -⟩ := HP8.out.at j hjl
            injection eg with eg
            injection eg with eg
            subst eg
            have hcj : ∀ w', Below w8.heap.size w8 w' → w'.cell? ⟨g, j * 2, none⟩ = some (.slice b3 all[j].1.length d3) ∧ True := fun w' h => ⟨(World.cell?_of_block (h.block _ hg8)).trans j0, trivial⟩
            have hcv : ∀ w', Below w8.heap.size w8 w' → (convert 30 9 (.slice b1 all[n].1.length d1)).run Try.prog w' = .ok (.string ⟨all[n].1.toArray⟩) w' ∧ (convert 30 9 (.slice b2 all[n].2.length d2)).run Try.prog w' = .ok (.string ⟨all[n].2.toArray⟩) w' ∧ (convert 30 9 (.slice b3 all[j].1.length d3)).run Try.prog w' = .ok (.string ⟨all[j].1.toArray⟩) w' := fun w' h => ⟨str (Sl.below Hg0.out (flat_loc _) h (Nat.le_refl _)), str (Sl.below Hg1.out (flat_loc _) h (Nat.le_refl _)), str (Sl.below hj0 (flat_loc _) h (Nat.le_refl _))⟩
            have hlt : Op.bytesLess all[j].1 all[n].1 = true := by rw [less_cmp]; exact decide_eq_true (rises_lt Hri.out j n (by omega) hi2)
            have hg0 : 0 < n := by omega
            have wj : IntKind.i64.wrap ((n : Int) - 1) = (j : Int) := by rw [show (n : Int) - 1 = (j : Int) by omega]; exact wrap_ok (by omega) (by omega)
            have jp : (0 : Int) ≤ (j : Int) := by omega
            have jl : (j : Int) < (all.length : Int) := by omega
            clear hn0 j0 hj0 hj
            refine wp_region_held_drew (S := fun w' => Below w8.heap.size w8 w') (by kernel_rfl) hd8 (fun hHeld => ?_)
            refine wpAnyH_take (i := 0) (v := .agg #[.slice a1 all[n].1.length c1, .slice a2 all[n].2.length c2]) rfl (by kernel_rfl) (by kernel_rfl) (by kernel_rfl) (fun _ _ _ h => h) (Or.inl ⟨by rfl, ?_⟩) hHeld ?_
            · intro w' hSw; obtain ⟨k0, k1⟩ := hcp w' hSw; go_simp
            try simp only [Act.put, List.getElem_toArray, List.getElem_cons_succ, List.getElem_cons_zero, List.setIfInBounds_toArray, List.set_cons_zero, List.set_cons_succ]
            refine wpAnyH_take (i := 1) (v := .bool true) rfl (by kernel_rfl) (by kernel_rfl) (by kernel_rfl) (fun _ _ _ h => h) (Or.inl ⟨by rfl, ?_⟩) hHeld ?_
            · intro w' hSw; go_simp
            try simp only [Act.put, List.getElem_toArray, List.getElem_cons_succ, List.getElem_cons_zero, List.setIfInBounds_toArray, List.set_cons_zero, List.set_cons_succ]
            refine wpAnyH_take (i := 2) (v := .slice (some ⟨g, 0, none⟩) all.length ca) rfl (by kernel_rfl) (by kernel_rfl) (by kernel_rfl) (fun _ _ _ h => h) (Or.inl ⟨by rfl, ?_⟩) hHeld ?_
            · intro w' hSw; go_simp
            try simp only [Act.put, List.getElem_toArray, List.getElem_cons_succ, List.getElem_cons_zero, List.setIfInBounds_toArray, List.set_cons_zero, List.set_cons_succ]
            refine wpAnyH_take (i := 3) (v := .int .i64 (n : Int)) rfl (by kernel_rfl) (by kernel_rfl) (by kernel_rfl) (fun _ _ _ h => h) (Or.inl ⟨by rfl, ?_⟩) hHeld ?_
            · intro w' hSw; go_simp
            try simp only [Act.put, List.getElem_toArray, List.getElem_cons_succ, List.getElem_cons_zero, List.setIfInBounds_toArray, List.set_cons_zero, List.set_cons_succ]
            refine wpAnyH_take (i := 4) (v := .pointer (some ⟨g, n * 2, none⟩)) rfl (by kernel_rfl) (by kernel_rfl) (by kernel_rfl) (fun _ _ _ h => h) (Or.inl ⟨by rfl, ?_⟩) hHeld ?_
            · intro w' hSw; go_simp
            try simp only [Act.put, List.getElem_toArray, List.getElem_cons_succ, List.getElem_cons_zero, List.setIfInBounds_toArray, List.set_cons_zero, List.set_cons_succ]
            refine wpAnyH_take (i := 5) (v := .pointer (some ⟨g, n * 2, none⟩)) rfl (by kernel_rfl) (by kernel_rfl) (by kernel_rfl) (fun _ _ _ h => h) (Or.inl ⟨by rfl, ?_⟩) hHeld ?_
            · intro w' hSw; go_simp
            try simp only [Act.put, List.getElem_toArray, List.getElem_cons_succ, List.getElem_cons_zero, List.setIfInBounds_toArray, List.set_cons_zero, List.set_cons_succ]
            refine wpAnyH_take (i := 6) (v := .slice b1 all[n].1.length d1) rfl (by kernel_rfl) (by kernel_rfl) (by kernel_rfl) (fun _ _ _ h => h) (Or.inl ⟨by rfl, ?_⟩) hHeld ?_
            · intro w' hSw; obtain ⟨k0, k1⟩ := hce w' hSw; go_simp
            try simp only [Act.put, List.getElem_toArray, List.getElem_cons_succ, List.getElem_cons_zero, List.setIfInBounds_toArray, List.set_cons_zero, List.set_cons_succ]
            refine wpAnyH_take (i := 7) (v := .string ⟨all[n].1.toArray⟩) rfl (by kernel_rfl) (by kernel_rfl) (by kernel_rfl) (fun _ _ _ h => h) (Or.inl ⟨by rfl, ?_⟩) hHeld ?_
            · intro w' hSw; have kx := (hcv w' hSw).1; go_simp
            try simp only [Act.put, List.getElem_toArray, List.getElem_cons_succ, List.getElem_cons_zero, List.setIfInBounds_toArray, List.set_cons_zero, List.set_cons_succ]
            refine wpAnyH_take (i := 8) (v := .slice (some ⟨g, 0, none⟩) all.length ca) rfl (by kernel_rfl) (by kernel_rfl) (by kernel_rfl) (fun _ _ _ h => h) (Or.inl ⟨by rfl, ?_⟩) hHeld ?_
            · intro w' hSw; go_simp
            try simp only [Act.put, List.getElem_toArray, List.getElem_cons_succ, List.getElem_cons_zero, List.setIfInBounds_toArray, List.set_cons_zero, List.set_cons_succ]
            refine wpAnyH_take (i := 9) (v := .int .i64 (n : Int)) rfl (by kernel_rfl) (by kernel_rfl) (by kernel_rfl) (fun _ _ _ h => h) (Or.inl ⟨by rfl, ?_⟩) hHeld ?_
            · intro w' hSw; go_simp
            try simp only [Act.put, List.getElem_toArray, List.getElem_cons_succ, List.getElem_cons_zero, List.setIfInBounds_toArray, List.set_cons_zero, List.set_cons_succ]
            refine wpAnyH_take (i := 10) (v := .pointer (some ⟨g, n * 2, none⟩)) rfl (by kernel_rfl) (by kernel_rfl) (by kernel_rfl) (fun _ _ _ h => h) (Or.inl ⟨by rfl, ?_⟩) hHeld ?_
            · intro w' hSw; go_simp
            try simp only [Act.put, List.getElem_toArray, List.getElem_cons_succ, List.getElem_cons_zero, List.setIfInBounds_toArray, List.set_cons_zero, List.set_cons_succ]
            refine wpAnyH_take (i := 11) (v := .pointer (some ⟨g, n * 2 + 1, none⟩)) rfl (by kernel_rfl) (by kernel_rfl) (by kernel_rfl) (fun _ _ _ h => h) (Or.inl ⟨by rfl, ?_⟩) hHeld ?_
            · intro w' hSw; go_simp
            try simp only [Act.put, List.getElem_toArray, List.getElem_cons_succ, List.getElem_cons_zero, List.setIfInBounds_toArray, List.set_cons_zero, List.set_cons_succ]
            refine wpAnyH_take (i := 12) (v := .slice b2 all[n].2.length d2) rfl (by kernel_rfl) (by kernel_rfl) (by kernel_rfl) (fun _ _ _ h => h) (Or.inl ⟨by rfl, ?_⟩) hHeld ?_
            · intro w' hSw; obtain ⟨k0, k1⟩ := hce w' hSw; go_simp
            try simp only [Act.put, List.getElem_toArray, List.getElem_cons_succ, List.getElem_cons_zero, List.setIfInBounds_toArray, List.set_cons_zero, List.set_cons_succ]
            refine wpAnyH_take (i := 13) (v := .string ⟨all[n].2.toArray⟩) rfl (by kernel_rfl) (by kernel_rfl) (by kernel_rfl) (fun _ _ _ h => h) (Or.inl ⟨by rfl, ?_⟩) hHeld ?_
            · intro w' hSw; have kx := (hcv w' hSw).2.1; go_simp
            try simp only [Act.put, List.getElem_toArray, List.getElem_cons_succ, List.getElem_cons_zero, List.setIfInBounds_toArray, List.set_cons_zero, List.set_cons_succ]
            refine wpAnyH_ready (rs := [14]) (by kernel_rfl) (by simp) ?_
            refine allCall (f := 19) (args := #[.agg #[.slice a1 all[n].1.length c1, .slice a2 all[n].2.length c2], .bool true, .string ⟨all[n].1.toArray⟩, .string ⟨all[n].2.toArray⟩]) rfl (by kernel_rfl) ?_ ?_ AllReadyH.nil
            · kernel_rfl
            · refine told_any 0 w8.heap.size _ _ all[n].1 all[n].2 all[n].1 all[n].2 true w8.drew (Sl.below Hx1.out (flat_loc _) hd8 (Nat.le_refl _)) (Sl.below Hx2.out (flat_loc _) hd8 (Nat.le_refl _)) (Nat.le_refl _) _ (fun w9 hB9 => ?_)
              rw [beq_self_eq_true, beq_self_eq_true]
              have hB89 : Below w8.heap.size w8 w9 := hd8.trans hB9
              refine ⟨_, rfl, hB89, ?_⟩
              have hHeld := hB89
              try simp only [Act.put, List.getElem_toArray, List.getElem_cons_succ, List.getElem_cons_zero, List.setIfInBounds_toArray, List.set_cons_zero, List.set_cons_succ]
              refine wpAnyH_take (i := 15) (v := .bool false) rfl (by kernel_rfl) (by kernel_rfl) (by kernel_rfl) (fun _ _ _ h => h) (Or.inl ⟨by rfl, ?_⟩) hHeld ?_
              · intro w' hSw; go_simp
              try simp only [Act.put, List.getElem_toArray, List.getElem_cons_succ, List.getElem_cons_zero, List.setIfInBounds_toArray, List.set_cons_zero, List.set_cons_succ]
              refine wpAnyH_take (i := 16) (v := .bool false) rfl (by kernel_rfl) (by kernel_rfl) (by kernel_rfl) (fun _ _ _ h => h) (Or.inl ⟨by rfl, ?_⟩) hHeld ?_
              · intro w' hSw; go_simp
              try simp only [Act.put, List.getElem_toArray, List.getElem_cons_succ, List.getElem_cons_zero, List.setIfInBounds_toArray, List.set_cons_zero, List.set_cons_succ]
              refine wpAnyH_take (i := 17) (v := .pointer q2) rfl (by kernel_rfl) (by kernel_rfl) (by kernel_rfl) (fun _ _ _ h => h) (Or.inl ⟨by rfl, ?_⟩) hHeld ?_
              · intro w' hSw; go_simp
              try simp only [Act.put, List.getElem_toArray, List.getElem_cons_succ, List.getElem_cons_zero, List.setIfInBounds_toArray, List.set_cons_zero, List.set_cons_succ]
              refine wpAnyH_take (i := 18) (v := .slice (some ⟨g, 0, none⟩) all.length ca) rfl (by kernel_rfl) (by kernel_rfl) (by kernel_rfl) (fun _ _ _ h => h) (Or.inl ⟨by rfl, ?_⟩) hHeld ?_
              · intro w' hSw; go_simp
              try simp only [Act.put, List.getElem_toArray, List.getElem_cons_succ, List.getElem_cons_zero, List.setIfInBounds_toArray, List.set_cons_zero, List.set_cons_succ]
              refine wpAnyH_take (i := 19) (v := .int .i64 (n : Int)) rfl (by kernel_rfl) (by kernel_rfl) (by kernel_rfl) (fun _ _ _ h => h) (Or.inl ⟨by rfl, ?_⟩) hHeld ?_
              · intro w' hSw; go_simp
              try simp only [Act.put, List.getElem_toArray, List.getElem_cons_succ, List.getElem_cons_zero, List.setIfInBounds_toArray, List.set_cons_zero, List.set_cons_succ]
              refine wpAnyH_take (i := 20) (v := .pointer (some ⟨g, n * 2, none⟩)) rfl (by kernel_rfl) (by kernel_rfl) (by kernel_rfl) (fun _ _ _ h => h) (Or.inl ⟨by rfl, ?_⟩) hHeld ?_
              · intro w' hSw; go_simp
              try simp only [Act.put, List.getElem_toArray, List.getElem_cons_succ, List.getElem_cons_zero, List.setIfInBounds_toArray, List.set_cons_zero, List.set_cons_succ]
              refine wpAnyH_take (i := 21) (v := .pointer (some ⟨g, n * 2, none⟩)) rfl (by kernel_rfl) (by kernel_rfl) (by kernel_rfl) (fun _ _ _ h => h) (Or.inl ⟨by rfl, ?_⟩) hHeld ?_
              · intro w' hSw; go_simp
              try simp only [Act.put, List.getElem_toArray, List.getElem_cons_succ, List.getElem_cons_zero, List.setIfInBounds_toArray, List.set_cons_zero, List.set_cons_succ]
              refine wpAnyH_take (i := 22) (v := .slice b1 all[n].1.length d1) rfl (by kernel_rfl) (by kernel_rfl) (by kernel_rfl) (fun _ _ _ h => h) (Or.inl ⟨by rfl, ?_⟩) hHeld ?_
              · intro w' hSw; obtain ⟨k0, k1⟩ := hce w' hSw; go_simp
              try simp only [Act.put, List.getElem_toArray, List.getElem_cons_succ, List.getElem_cons_zero, List.setIfInBounds_toArray, List.set_cons_zero, List.set_cons_succ]
              refine wpAnyH_take (i := 24) (v := .int .i64 (n : Int)) rfl (by kernel_rfl) (by kernel_rfl) (by kernel_rfl) (fun _ _ _ h => h) (Or.inl ⟨by rfl, ?_⟩) hHeld ?_
              · intro w' hSw; go_simp
              try simp only [Act.put, List.getElem_toArray, List.getElem_cons_succ, List.getElem_cons_zero, List.setIfInBounds_toArray, List.set_cons_zero, List.set_cons_succ]
              refine wpAnyH_ready (rs := [23]) (by kernel_rfl) (by simp) ?_
              refine allCall (f := 15) (args := #[.pointer q2, .slice b1 all[n].1.length d1]) rfl (by kernel_rfl) ?_ ?_ AllReadyH.nil
              · kernel_rfl
              · refine Rank_any Nn w1.heap.size w2.heap.size w8.heap.size t all[n].1 (.pointer q2) _ w9 (Ht8.out.step (Nn.lt _) hs18 hB89) (Sl.below Hg0.out (flat_loc _) hB89 (Nat.le_refl _)) hm6 _ ?_
                rw [Hrk.out]
                refine ⟨_, rfl, hB89, ?_⟩
                try simp only [Act.put, List.getElem_toArray, List.getElem_cons_succ, List.getElem_cons_zero, List.setIfInBounds_toArray, List.set_cons_zero, List.set_cons_succ]
                refine wpAnyH_take (i := 25) (v := .bool false) rfl (by kernel_rfl) (by kernel_rfl) (by kernel_rfl) (fun _ _ _ h => h) (Or.inl ⟨by rfl, ?_⟩) hHeld ?_
                · intro w' hSw; go_simp
                try simp only [Act.put, List.getElem_toArray, List.getElem_cons_succ, List.getElem_cons_zero, List.setIfInBounds_toArray, List.set_cons_zero, List.set_cons_succ]
                refine wpAnyH_take (i := 26) (v := .bool false) rfl (by kernel_rfl) (by kernel_rfl) (by kernel_rfl) (fun _ _ _ h => h) (Or.inl ⟨by rfl, ?_⟩) hHeld ?_
                · intro w' hSw; go_simp
                try simp only [Act.put, List.getElem_toArray, List.getElem_cons_succ, List.getElem_cons_zero, List.setIfInBounds_toArray, List.set_cons_zero, List.set_cons_succ]
                refine wpAnyH_take (i := 27) (v := .bool false) rfl (by kernel_rfl) (by kernel_rfl) (by kernel_rfl) (fun _ _ _ h => h) (Or.inl ⟨by rfl, ?_⟩) hHeld ?_
                · intro w' hSw; go_simp
                try simp only [Act.put, List.getElem_toArray, List.getElem_cons_succ, List.getElem_cons_zero, List.setIfInBounds_toArray, List.set_cons_zero, List.set_cons_succ]
                refine wpAnyH_take (i := 28) (v := .int .i64 (n : Int)) rfl (by kernel_rfl) (by kernel_rfl) (by kernel_rfl) (fun _ _ _ h => h) (Or.inl ⟨by rfl, ?_⟩) hHeld ?_
                · intro w' hSw; go_simp
                try simp only [Act.put, List.getElem_toArray, List.getElem_cons_succ, List.getElem_cons_zero, List.setIfInBounds_toArray, List.set_cons_zero, List.set_cons_succ]
                refine wpAnyH_take (i := 29) (v := .bool true) rfl (by kernel_rfl) (by kernel_rfl) (by kernel_rfl) (fun _ _ _ h => h) (Or.inl ⟨by rfl, ?_⟩) hHeld ?_
                · intro w' hSw; go_simp
                try simp only [Act.put, List.getElem_toArray, List.getElem_cons_succ, List.getElem_cons_zero, List.setIfInBounds_toArray, List.set_cons_zero, List.set_cons_succ]
                refine wpAnyH_take (i := 30) (v := .bool true) rfl (by kernel_rfl) (by kernel_rfl) (by kernel_rfl) (fun _ _ _ h => h) (Or.inl ⟨by rfl, ?_⟩) hHeld ?_
                · intro w' hSw; go_simp
                try simp only [Act.put, List.getElem_toArray, List.getElem_cons_succ, List.getElem_cons_zero, List.setIfInBounds_toArray, List.set_cons_zero, List.set_cons_succ]
                refine wpAnyH_take (i := 31) (v := .slice (some ⟨g, 0, none⟩) all.length ca) rfl (by kernel_rfl) (by kernel_rfl) (by kernel_rfl) (fun _ _ _ h => h) (Or.inl ⟨by rfl, ?_⟩) hHeld ?_
                · intro w' hSw; go_simp
                try simp only [Act.put, List.getElem_toArray, List.getElem_cons_succ, List.getElem_cons_zero, List.setIfInBounds_toArray, List.set_cons_zero, List.set_cons_succ]
                refine wpAnyH_take (i := 32) (v := .int .i64 (n : Int)) rfl (by kernel_rfl) (by kernel_rfl) (by kernel_rfl) (fun _ _ _ h => h) (Or.inl ⟨by rfl, ?_⟩) hHeld ?_
                · intro w' hSw; go_simp
                try simp only [Act.put, List.getElem_toArray, List.getElem_cons_succ, List.getElem_cons_zero, List.setIfInBounds_toArray, List.set_cons_zero, List.set_cons_succ]
                refine wpAnyH_take (i := 33) (v := .int .i64 (j : Int)) rfl (by kernel_rfl) (by kernel_rfl) (by kernel_rfl) (fun _ _ _ h => h) (Or.inl ⟨by rfl, ?_⟩) hHeld ?_
                · intro w' hSw; go_simp
                try simp only [Act.put, List.getElem_toArray, List.getElem_cons_succ, List.getElem_cons_zero, List.setIfInBounds_toArray, List.set_cons_zero, List.set_cons_succ]
                refine wpAnyH_take (i := 34) (v := .pointer (some ⟨g, j * 2, none⟩)) rfl (by kernel_rfl) (by kernel_rfl) (by kernel_rfl) (fun _ _ _ h => h) (Or.inl ⟨by rfl, ?_⟩) hHeld ?_
                · intro w' hSw; go_simp
                try simp only [Act.put, List.getElem_toArray, List.getElem_cons_succ, List.getElem_cons_zero, List.setIfInBounds_toArray, List.set_cons_zero, List.set_cons_succ]
                refine wpAnyH_take (i := 35) (v := .pointer (some ⟨g, j * 2, none⟩)) rfl (by kernel_rfl) (by kernel_rfl) (by kernel_rfl) (fun _ _ _ h => h) (Or.inl ⟨by rfl, ?_⟩) hHeld ?_
                · intro w' hSw; go_simp
                try simp only [Act.put, List.getElem_toArray, List.getElem_cons_succ, List.getElem_cons_zero, List.setIfInBounds_toArray, List.set_cons_zero, List.set_cons_succ]
                refine wpAnyH_take (i := 36) (v := .slice b3 all[j].1.length d3) rfl (by kernel_rfl) (by kernel_rfl) (by kernel_rfl) (fun _ _ _ h => h) (Or.inl ⟨by rfl, ?_⟩) hHeld ?_
                · intro w' hSw; obtain ⟨k0, k1⟩ := hcj w' hSw; go_simp
                try simp only [Act.put, List.getElem_toArray, List.getElem_cons_succ, List.getElem_cons_zero, List.setIfInBounds_toArray, List.set_cons_zero, List.set_cons_succ]
                refine wpAnyH_take (i := 37) (v := .string ⟨all[j].1.toArray⟩) rfl (by kernel_rfl) (by kernel_rfl) (by kernel_rfl) (fun _ _ _ h => h) (Or.inl ⟨by rfl, ?_⟩) hHeld ?_
                · intro w' hSw; have kx := (hcv w' hSw).2.2; go_simp
                try simp only [Act.put, List.getElem_toArray, List.getElem_cons_succ, List.getElem_cons_zero, List.setIfInBounds_toArray, List.set_cons_zero, List.set_cons_succ]
                refine wpAnyH_take (i := 38) (v := .slice (some ⟨g, 0, none⟩) all.length ca) rfl (by kernel_rfl) (by kernel_rfl) (by kernel_rfl) (fun _ _ _ h => h) (Or.inl ⟨by rfl, ?_⟩) hHeld ?_
                · intro w' hSw; go_simp
                try simp only [Act.put, List.getElem_toArray, List.getElem_cons_succ, List.getElem_cons_zero, List.setIfInBounds_toArray, List.set_cons_zero, List.set_cons_succ]
                refine wpAnyH_take (i := 39) (v := .int .i64 (n : Int)) rfl (by kernel_rfl) (by kernel_rfl) (by kernel_rfl) (fun _ _ _ h => h) (Or.inl ⟨by rfl, ?_⟩) hHeld ?_
                · intro w' hSw; go_simp
                try simp only [Act.put, List.getElem_toArray, List.getElem_cons_succ, List.getElem_cons_zero, List.setIfInBounds_toArray, List.set_cons_zero, List.set_cons_succ]
                refine wpAnyH_take (i := 40) (v := .pointer (some ⟨g, n * 2, none⟩)) rfl (by kernel_rfl) (by kernel_rfl) (by kernel_rfl) (fun _ _ _ h => h) (Or.inl ⟨by rfl, ?_⟩) hHeld ?_
                · intro w' hSw; go_simp
                try simp only [Act.put, List.getElem_toArray, List.getElem_cons_succ, List.getElem_cons_zero, List.setIfInBounds_toArray, List.set_cons_zero, List.set_cons_succ]
                refine wpAnyH_take (i := 41) (v := .pointer (some ⟨g, n * 2, none⟩)) rfl (by kernel_rfl) (by kernel_rfl) (by kernel_rfl) (fun _ _ _ h => h) (Or.inl ⟨by rfl, ?_⟩) hHeld ?_
                · intro w' hSw; go_simp
                try simp only [Act.put, List.getElem_toArray, List.getElem_cons_succ, List.getElem_cons_zero, List.setIfInBounds_toArray, List.set_cons_zero, List.set_cons_succ]
                refine wpAnyH_take (i := 42) (v := .slice b1 all[n].1.length d1) rfl (by kernel_rfl) (by kernel_rfl) (by kernel_rfl) (fun _ _ _ h => h) (Or.inl ⟨by rfl, ?_⟩) hHeld ?_
                · intro w' hSw; obtain ⟨k0, k1⟩ := hce w' hSw; go_simp
                try simp only [Act.put, List.getElem_toArray, List.getElem_cons_succ, List.getElem_cons_zero, List.setIfInBounds_toArray, List.set_cons_zero, List.set_cons_succ]
                refine wpAnyH_take (i := 43) (v := .string ⟨all[n].1.toArray⟩) rfl (by kernel_rfl) (by kernel_rfl) (by kernel_rfl) (fun _ _ _ h => h) (Or.inl ⟨by rfl, ?_⟩) hHeld ?_
                · intro w' hSw; have kx := (hcv w' hSw).1; go_simp
                try simp only [Act.put, List.getElem_toArray, List.getElem_cons_succ, List.getElem_cons_zero, List.setIfInBounds_toArray, List.set_cons_zero, List.set_cons_succ]
                refine wpAnyH_take (i := 44) (v := .bool false) rfl (by kernel_rfl) (by kernel_rfl) (by kernel_rfl) (fun _ _ _ h => h) (Or.inl ⟨by rfl, ?_⟩) hHeld ?_
                · intro w' hSw; go_simp
                try simp only [Act.put, List.getElem_toArray, List.getElem_cons_succ, List.getElem_cons_zero, List.setIfInBounds_toArray, List.set_cons_zero, List.set_cons_succ]
                refine wpAnyH_take (i := 45) (v := .bool false) rfl (by kernel_rfl) (by kernel_rfl) (by kernel_rfl) (fun _ _ _ h => h) (Or.inl ⟨by rfl, ?_⟩) hHeld ?_
                · intro w' hSw; go_simp
                try simp only [Act.put, List.getElem_toArray, List.getElem_cons_succ, List.getElem_cons_zero, List.setIfInBounds_toArray, List.set_cons_zero, List.set_cons_succ]
                refine wpAnyH_take (i := 46) (v := .bool false) rfl (by kernel_rfl) (by kernel_rfl) (by kernel_rfl) (fun _ _ _ h => h) (Or.inl ⟨by rfl, ?_⟩) hHeld ?_
                · intro w' hSw; go_simp
                try simp only [Act.put, List.getElem_toArray, List.getElem_cons_succ, List.getElem_cons_zero, List.setIfInBounds_toArray, List.set_cons_zero, List.set_cons_succ]
                refine wpAnyH_done (by kernel_rfl) ?_ _
                clear hHeld
                have hBn := HB8.out.trans (hB89.mono HB8.out.size)
                have HBn := Lib.hid hBn
                clear hBn
                go_wp2_with fail
                go_roundw
                case rel => exact ⟨n + 1, by omega, by go_num, HBn.out⟩
                case measure => first | (simp [intOf]; done) | (simp [intOf]; omega)
        · have hr := HR.out wr (HB5.out.trans (HB.out.mono HB5.out.size))
          go_wp2_with fail
          first | exact hr | exact fin hr rfl
    | succ k =>
      rw [show ((k + 1 : Nat) : Int) - 1 = (k : Int) by omega]
      have hk : k < all.length := by omega
      obtain ⟨g, a1, c1, a2, c2, rfl, hg, x0, x1, hx0, hx1⟩ := (HPa.out.below HB.out).at k hk
      have hln := Hln.out _ (List.getElem_mem hk)
      have k0 : (0 : Int) ≤ (k : Int) := by omega
      have kl : (k : Int) < (all.length : Int) := by omega
      have wk : IntKind.i64.wrap ((k : Int) - 1) = (k : Int) - 1 := by
        by_cases h0 : k = 0
        · rw [h0]; rfl
        · exact wrap_ok (by omega) (by omega)
      have H1 := Lib.hid hx0
      have H2 := Lib.hid hx1
      have hkeep : ∀ w', Below wr.heap.size wr w' → (Below wr.heap.size wr w' ∧ w'.cell? ⟨g, k * 2, none⟩ = some (.slice a1 all[k].1.length c1) ∧ w'.cell? ⟨g, k * 2 + 1, none⟩ = some (.slice a2 all[k].2.length c2)) := fun w' h => ⟨h, (World.cell?_of_block (h.block g hg)).trans x0, (World.cell?_of_block (h.block g hg)).trans x1⟩
      have hnext : (bt.put all[k].1 all[k].2).toL = all.drop k := by rw [T.toL_put _ _ _ Hg.out.rises, Hd.out, insL_drop Hri.out k hk]
      have hgn : Gr (bt.put all[k].1 all[k].2) (all.length - k) := (Hg.out.put _ _ hln.1 hln.2).mono (by omega)
      have Hnext := Lib.hid hnext
      have Hgn := Lib.hid hgn
      have hs1b := Nat.le_trans hs13 hsb
      clear hx0 hx1 hnext hgn
      go_wp2_with fail
      go_region_held3 (fun w' => Below wr.heap.size wr w' ∧ w'.cell? ⟨g, k * 2, none⟩ = some (.slice a1 all[k].1.length c1) ∧ w'.cell? ⟨g, k * 2 + 1, none⟩ = some (.slice a2 all[k].2.length c2))
        ((apply hkeep; first | exact stepS (by assumption) (by assumption) | (repeat (first | exact Below.refl _ _ | apply drewN | apply Below.drew))))
        (first
          | (go_at_call_of 10 (Value.pointer qb)
             refine (Put_x w1.heap.size w2.heap.size wr.heap.size w2.heap.size wr.heap.size (all.length - (k + 1)) bt all[k].1 all[k].2 _ _ _ _ (szS hs1b (by assumption)) (Hb.out.step (Nn.lt _) hs1b (And.left (by assumption))) (H1.out.below (flat_loc _) (And.left (by assumption)) (Nat.le_refl _)) (H2.out.below (flat_loc _) (And.left (by assumption)) (Nat.le_refl _)) (szS (Nat.le_refl _) (by assumption)) (szS (Nat.le_refl _) (by assumption)) Hg.out (by omega) hln.1 hln.2).mono ?_
             rintro e w' ⟨b, rfl, hb', hsz, ht2⟩))
      all_goals have hb2 : Below wr.heap.size wr w' := (Below.refl _ _).drew.trans hb'
      all_goals have Ht2 := Lib.hid ht2
      all_goals have HBn := Lib.hid (HB.out.trans (hb2.mono hsb))
      all_goals clear ht2 hb'
      all_goals go_wp2_with fail
      all_goals go_roundw
      case rel => exact ⟨k, bt.put all[k].1 all[k].2, by omega, by go_num, HBn.out, Ht2.out, Hgn.out, Hnext.out⟩
      case measure => first | (simp [intOf]; done) | (simp [intOf]; omega)
end Go.Proofs.Ytmlcnfomiemdpaa
