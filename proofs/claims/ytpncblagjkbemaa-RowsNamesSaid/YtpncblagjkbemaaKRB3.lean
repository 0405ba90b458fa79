/- Texts that the proofs of RB stand on, part 3. -/
import Derived.RangeFuncNested
import Derived.RangeFuncBound
import Derived.RangeFuncCalls
import Derived.RangeFuncLeaves
import Derived.Shelf.Abstract
import Derived.Shelf.RegionOpen
import Derived.OwnWalkIn
import Derived.TacticsInMore
import Derived.LoopNIn
import Derived.LoopIn
import Derived.OrdersIn
import Derived.OrdersHeld
import Derived.Deep.RegionHeld3
import Derived.Scope
import Derived.Test.YtpncblagjkbemaaKRB2
/- Columns that two relations have, and those that one alone has; rows sorted by columns. (Printed by meb.py.) -/
section
set_option linter.unusedVariables false
set_option linter.unusedSimpArgs false
namespace Go.Proofs.Ytpncblagjkbemaa
open Go.RowKit
set_option linter.unusedVariables false
set_option linter.unusedSimpArgs false
attribute [local go_sem ↓] Go.wp_at_zero Go.wp_at_succ

def commonC (a b : List S) : List S := b.filter fun c => decide (0 ≤ placeI a c)
def restC (a b : List S) : List S := b.filter fun c => !decide (0 ≤ placeI a c)
theorem common_succ (a b : List S) (k : Nat) (h : k < b.length) : commonC a (b.take (k + 1)) = commonC a (b.take k) ++ (if 0 ≤ placeI a b[k] then [b[k]] else []) := by
  unfold commonC
  rw [List.take_succ_eq_append_getElem h, List.filter_append, List.filter_cons, List.filter_nil]
  by_cases hp : 0 ≤ placeI a b[k] <;> simp [hp]
theorem rest_succ (a b : List S) (k : Nat) (h : k < b.length) : restC a (b.take (k + 1)) = restC a (b.take k) ++ (if 0 ≤ placeI a b[k] then [] else [b[k]]) := by
  unfold restC
  rw [List.take_succ_eq_append_getElem h, List.filter_append, List.filter_cons, List.filter_nil]
  by_cases hp : 0 ≤ placeI a b[k] <;> simp [hp]
theorem appT1 {w : World} {lo : Nat} {v : Value} {xs : List S} (h : OwnT lo w v xs) (x : S) {n : Nat} (hn : n = w.heap.size) (hb : xs.length ≤ 4000000000000) (hlo : lo ≤ w.heap.size) :
    ∃ v' w', (Builtin.append_ #[31, 31] 31 #[v, .slice (some ⟨n, 0, none⟩) 1 1]).run Try.prog (w.alloc (.cells #[.string ⟨x.toArray⟩] 9)) = .ok v' w' ∧ OwnT lo w' v' (xs ++ [x]) ∧ Appended w v w' v' := by
  subst hn
  have hB : Below w.heap.size w (w.alloc (.cells (strE x).toArray 9)) := (Below.refl _ _).alloc (Nat.le_refl _) _
  obtain ⟨i0, hi, hz0, hz1, hz2⟩ := info_parts infoT
  have hc := CellsAt.newAt w (strE x) 9 rfl
  have hs : Src Try.prog 1 31 (.slice (some ⟨w.heap.size, 0, none⟩) 1 1) [x].length ([x].flatMap strE) (w.alloc (.cells (strE x).toArray 9)) :=
    Src.ofSlice _ Try.underlying31 _ _ _ _ (by simp [strE]) (fun j u hu => by rw [Addr.add_lit]; exact hc j u (by simpa using hu)) (fun u hu => by
      rw [List.flatMap_cons, List.flatMap_nil, List.append_nil] at hu
      exact oneS x u hu)
  obtain ⟨v', w', hr, ho, ha⟩ := (Own.kept h hB).app _ _ _ i0 _ 16 Try.underlying31 hi hz0 hz1 hz2 rfl hs (by simp only [List.length_cons, List.length_nil]; omega) (by omega) (Nat.le_trans hlo hB.size)
  exact ⟨v', w', hr, ho, (Appended.step v hB).trans ha⟩
set_option maxRecDepth 100000 in
set_option maxHeartbeats 4000000 in
theorem both_any (lc hc l2 h2 : Nat) (ac bc : List S) (pa pb qa qb : Option Addr) (ca cb na da nb db : Nat) (w : World) (ha : Strs lc hc w (.slice pa ac.length ca) ac) (hhc : hc ≤ w.heap.size) (hb : Strs l2 h2 w (.slice pb bc.length cb) bc) (hh2 : h2 ≤ w.heap.size) (hl : bc.length ≤ 1000000000000) (R : Ending → World → Prop)
    (hR : ∀ w' v4 v5, Below w.heap.size w w' → OwnT w.heap.size w' v4 (commonC ac bc) → OwnT w.heap.size w' v5 (restC ac bc) → R (.returned (.tuple #[v4, v5])) w') :
    Calls Try.prog 83 #[.agg #[.slice pa ac.length ca, .slice qa na da], .agg #[.slice pb bc.length cb, .slice qb nb db]] w R := by
  have HR := Lib.hid hR
  have Ha := Lib.hid ha
  have Hb := Lib.hid hb
  clear hR ha hb
  obtain ⟨w1, ew1⟩ : ∃ x, x = w.alloc (.cells #[.slice pa ac.length ca, .slice qa na da] 34) := ⟨_, rfl⟩
  obtain ⟨w2, ew2⟩ : ∃ x, x = w1.alloc (.cells #[.slice pb bc.length cb, .slice qb nb db] 34) := ⟨_, rfl⟩
  have s1 : w1.heap.size = w.heap.size + 1 := by rw [ew1]; simp
  have hB1 : Below w.heap.size w w1 := by rw [ew1]; exact alloc_below _ _
  have hB2 : Below w1.heap.size w1 w2 := by rw [ew2]; exact alloc_below _ _
  have hb1 : Blk w1 w.heap.size [.slice pa ac.length ca, .slice qa na da] 34 := by rw [ew1]; exact Blk.new w [.slice pa ac.length ca, .slice qa na da] _ rfl
  have hb2 : Blk w2 (w.heap.size + 1) [.slice pb bc.length cb, .slice qb nb db] 34 := by rw [ew2]; exact Blk.new w1 [.slice pb bc.length cb, .slice qb nb db] _ s1.symm
  have hb1 := hb1.below hB2 hb1.lt
  have hB := hB1.trans (hB2.mono hB1.size)
  go_enter Try.func83, Try.ntmps83
  go_upto_region 1 with fail
  rw [← ew1, ← ew2]
  have Hb1 := Lib.hid hb1
  have Hb2 := Lib.hid hb2
  have HB2 := Lib.hid hB
  have hz2 := hB.size
  have hl1 := hb1.lt
  have hl2 := hb2.lt
  clear ew1 ew2 s1 hB1 hB2 hb1 hb2 hB
  obtain ⟨c0, c1⟩ := Hb2.out.cells.c2
  simp only [Nat.zero_add] at c1
  go_wp2_with fail
  clear c0 c1
  go_loopw [4, 5, 11] (fun t4 t5 t11 wr => ∃ k : Nat, k ≤ bc.length ∧ t11 = .int .i64 k ∧ OwnT w2.heap.size wr t4 (commonC ac (bc.take k)) ∧ OwnT w2.heap.size wr t5 (restC ac (bc.take k)) ∧ (∀ g, t4.ownBlock = some g → t5.ownBlock ≠ some g) ∧ Below w2.heap.size w2 wr) (fun _ _ t11 _ => bc.length - (intOf t11).toNat)
  case atStart => exact ⟨0, Nat.zero_le _, rfl, Own.nil _ _ _ _ _, Own.nil _ _ _ _ _, (fun g h => by cases h), Below.refl _ _⟩
  case round =>
    obtain ⟨k, hk, rfl, h4, h5, h45, hB⟩ := hrel
    obtain ⟨wo, ewo⟩ : ∃ x, x = wr := ⟨_, rfl⟩
    subst ewo
    have H4 := Lib.hid h4
    have H5 := Lib.hid h5
    have H45 := Lib.hid h45
    have HBo := Lib.hid hB
    have HB := Lib.hid (HB2.out.trans (hB.mono (by omega)))
    have hzo := hB.size
    have kk0 : (0 : Int) ≤ (k : Int) := by omega
    obtain ⟨p4, q4, hp4⟩ := Own.slice h4
    obtain ⟨p5, q5, hp5⟩ := Own.slice h5
    have Hl4 : Hid ((commonC ac (bc.take k)).length ≤ k) := Lib.hid (Nat.le_trans (List.length_filter_le _ _) (by rw [List.length_take]; omega))
    have Hl5 : Hid ((restC ac (bc.take k)).length ≤ k) := Lib.hid (Nat.le_trans (List.length_filter_le _ _) (by rw [List.length_take]; omega))
    obtain ⟨c0, c1⟩ := (Hb1.out.below hB hl1).cells.c2
    simp only [Nat.zero_add] at c1
    clear h4 h5 h45 hB
    by_cases hlt : k < bc.length
    · have kkl : (k : Int) < (bc.length : Int) := by omega
      obtain ⟨b, off, rfl, hb, hat⟩ := Strs.at (Sl.below Hb.out Strs.loc HB.out hh2) (by omega) (by omega)
      have g0 := hat k hlt wo (Below.refl _ _)
      have Hs4 := Lib.hid (common_succ ac bc k hlt)
      have Hs5 := Lib.hid (rest_succ ac bc k hlt)
      clear hat
      generalize bc[k] = c at *
      subst hp4 hp5
      by_cases hp : 0 ≤ placeI ac c
      · have Hn4 : Hid (commonC ac (bc.take (k + 1)) = commonC ac (bc.take k) ++ [c]) := Lib.hid (by rw [Hs4.out, if_pos hp])
        have Hn5 : Hid (restC ac (bc.take (k + 1)) = restC ac (bc.take k)) := Lib.hid (by rw [Hs5.out, if_pos hp, List.append_nil])
        obtain ⟨v3, w3, hr3, ho3, ha3⟩ := appT1 H4.out c rfl (by have := Hl4.out; omega) (by omega)
        have HO4 := Lib.hid ho3
        have HO5 := Lib.hid (Own.same H5.out (fun g e => ha3.grown.block g (Own.lt H5.out g e).2 (fun e2 => H45.out g e2.symm e)))
        have Hap : Hid (∀ g, v3.ownBlock = some g → (Value.slice p5 (restC ac (bc.take k)).length q5).ownBlock ≠ some g) := Lib.hid (fun g e e2 => ha3.apart (Own.lt H5.out g e2).2 (fun e3 => H45.out g e3 e2) e)
        have HB3 := Lib.hid (HBo.out.trans (ha3.below (B := w2.heap.size) (by omega) (fun q e => (Own.lt H4.out q e).1)))
        have hpb : (decide (0 ≤ placeI ac c)) = true := decide_eq_true hp
        clear ho3 ha3
        go_wp2_with fail
        refine Contains_any lc hc ac c _ wo (Sl.below Ha.out Strs.loc HB.out hhc) _ ?_
        rw [hpb]
        clear hp hpb Hs4 Hs5
        go_wp2_with (at_builtin; refine AtApp.of ?_)
        refine AtApp.go hr3 rfl rfl rfl rfl ?_
        go_wp2_with fail
        go_roundw
        case rel => exact ⟨k + 1, by omega, by go_num, by rw [Hn4.out]; exact HO4.out, by rw [Hn5.out]; exact HO5.out, Hap.out, HB3.out⟩
        case measure => simp [intOf]; omega
      · have Hn4 : Hid (commonC ac (bc.take (k + 1)) = commonC ac (bc.take k)) := Lib.hid (by rw [Hs4.out, if_neg hp, List.append_nil])
        have Hn5 : Hid (restC ac (bc.take (k + 1)) = restC ac (bc.take k) ++ [c]) := Lib.hid (by rw [Hs5.out, if_neg hp])
        obtain ⟨v3, w3, hr3, ho3, ha3⟩ := appT1 H5.out c rfl (by have := Hl5.out; omega) (by omega)
        have HO5 := Lib.hid ho3
        have HO4 := Lib.hid (Own.same H4.out (fun g e => ha3.grown.block g (Own.lt H4.out g e).2 (fun e2 => H45.out g e e2.symm)))
        have Hap : Hid (∀ g, (Value.slice p4 (commonC ac (bc.take k)).length q4).ownBlock = some g → v3.ownBlock ≠ some g) := Lib.hid (fun g e => ha3.apart (Own.lt H4.out g e).2 (H45.out g e))
        have HB3 := Lib.hid (HBo.out.trans (ha3.below (B := w2.heap.size) (by omega) (fun q e => (Own.lt H5.out q e).1)))
        have hpb : (decide (0 ≤ placeI ac c)) = false := decide_eq_false hp
        clear ho3 ha3
        go_wp2_with fail
        refine Contains_any lc hc ac c _ wo (Sl.below Ha.out Strs.loc HB.out hhc) _ ?_
        rw [hpb]
        clear hp hpb Hs4 Hs5
        go_wp2_with (at_builtin; refine AtApp.of ?_)
        refine AtApp.go hr3 rfl rfl rfl rfl ?_
        go_wp2_with fail
        go_roundw
        case rel => exact ⟨k + 1, by omega, by go_num, by rw [Hn4.out]; exact HO4.out, by rw [Hn5.out]; exact HO5.out, Hap.out, HB3.out⟩
        case measure => simp [intOf]; omega
    · obtain rfl : k = bc.length := by omega
      have h4 := H4.out
      have h5 := H5.out
      rw [List.take_length] at h4 h5
      have H4' := Lib.hid h4
      have H5' := Lib.hid h5
      have hr := HR.out wo _ _ HB.out (Own.lower h4 hz2) (Own.lower h5 hz2)
      clear h4 h5
      subst hp4 hp5
      go_wp2_with fail
      first | exact hr | exact fin hr rfl
set_option maxRecDepth 100000 in
set_option maxHeartbeats 2000000 in
theorem sorted1_any (lo hi lo2 hi2 b : Nat) (x : List V) (at' : List Int) (vx va : Value) (w : World) (hx : Row1 lo hi w vx x) (hhi : hi ≤ w.heap.size) (ha : Ints lo2 hi2 w va at') (hhi2 : hi2 ≤ w.heap.size) (hb : Blk w b [va] 84) (hok : AtOk x.length at') (hlen : at'.length ≤ 1000000000000) (R : Ending → World → Prop)
    (hR : ∀ w' v', Below w.heap.size w w' → OwnV w.heap.size w' v' (pickL x at') → R (.returned (.tuple #[v', .bool true])) w') : Calls Try.prog 117 #[vx, .pointer (some ⟨b, 0, none⟩)] w R := by
  have HR := Lib.hid hR
  have Hx := Lib.hid hx
  have Ha := Lib.hid ha
  obtain ⟨ax, cx, rfl, -, -, -, -⟩ := hx.form
  obtain ⟨aa, ca, rfl, -, -, -, -⟩ := ha.form
  have c0 := hb.cells.c1
  clear hR hx ha hb
  go_enter Try.func117, Try.ntmps117
  go_wp2_with fail
  refine pick_any lo hi lo2 hi2 x at' _ _ w Hx.out hhi Ha.out hhi2 hok hlen _ (fun w1 v1 hB1 ho1 => ?_)
  have hr := HR.out w1 v1 hB1 ho1
  obtain ⟨p1, c1, rfl⟩ := Own.slice ho1
  clear hB1 ho1
  go_wp2_with fail
  first | exact hr | exact fin hr rfl
set_option maxRecDepth 100000 in
set_option maxHeartbeats 2000000 in
theorem Or1_any (lo hi lo2 hi2 b : Nat) (x : List V) (at' : List Int) (vx va : Value) (w : World) (hx : Row1 lo hi w vx x) (hhi : hi ≤ w.heap.size) (ha : Ints lo2 hi2 w va at') (hhi2 : hi2 ≤ w.heap.size) (hb : Blk w b [va] 84) (hok : AtOk x.length at') (hlen : at'.length ≤ 1000000000000) (R : Ending → World → Prop)
    (hR : ∀ w' v', Below w.heap.size w w' → OwnV w.heap.size w' v' (pickL x at') → R (.returned (.tuple #[v', .bool true])) w') : Calls Try.prog 90 #[vx, .pointer (some ⟨b, 0, none⟩)] w R := by
  have HR := Lib.hid hR
  have Hx := Lib.hid hx
  have Ha := Lib.hid ha
  obtain ⟨ax, cx, rfl, -, -, -, -⟩ := hx.form
  obtain ⟨aa, ca, rfl, -, -, -, -⟩ := ha.form
  have c0 := hb.cells.c1
  clear hR hx ha hb
  go_enter Try.func90, Try.ntmps90
  go_wp2_with fail
  refine pick_any lo hi lo2 hi2 x at' _ _ w Hx.out hhi Ha.out hhi2 hok hlen _ (fun w1 v1 hB1 ho1 => ?_)
  have hr := HR.out w1 v1 hB1 ho1
  obtain ⟨p1, c1, rfl⟩ := Own.slice ho1
  clear hB1 ho1
  go_wp2_with fail
  first | exact hr | exact fin hr rfl
set_option maxRecDepth 100000 in
set_option maxHeartbeats 4000000 in
theorem sorted_any (lo hi lc hc l2 h2 l3 h3 : Nat) (rc : List S) (ac : Option Addr) (cc : Nat) (l : List (List V)) (lv : Value) (fs ts : List S) (fv tv : Value) (w : World) (hrc : Strs lc hc w (.slice ac rc.length cc) rc) (hhc : hc ≤ w.heap.size) (hv : Rws lo hi w lv l) (hhi : hi ≤ w.heap.size) (hf : Strs l2 h2 w fv fs) (hh2 : h2 ≤ w.heap.size) (ht : Strs l3 h3 w tv ts) (hh3 : h3 ≤ w.heap.size)
    (hm : mayRel rc l = true) (hw : withinB (fs ++ ts) rc = true) (hfl : fs.length ≤ 100000000) (htl : ts.length ≤ 100000000) (R : Ending → World → Prop)
    (hR : ∀ w' v' hs ys, Below w.heap.size w w' → OwnR w.heap.size w' v' hs ys → ys.Perm (l.map fun x => pickL x (placesL (fs ++ ts) rc)) → ys.Pairwise (fun a b => ¬ cmpR b a < 0) → R (.returned v') w') :
    Calls Try.prog 85 #[.agg #[.slice ac rc.length cc, lv], fv, tv] w R := by
  have HR := Lib.hid hR
  have Hrc := Lib.hid hrc
  have Hv := Lib.hid hv
  have Hf := Lib.hid hf
  have Ht := Lib.hid ht
  have Hm := Lib.hid (may_len hm)
  have hml := (may_many hm).1
  have Hw := Lib.hid hw
  obtain ⟨av, cv2, rfl, -, -, -, -⟩ := hv.form
  obtain ⟨pf, cf, rfl, -, -, -, -⟩ := hf.form
  obtain ⟨pt, ct, rfl, -, -, -, -⟩ := ht.form
  clear hR hrc hv hf ht hm hw
  go_enter Try.func85, Try.ntmps85
  go_upto_region 1 with fail
  have hBa := alloc_below w (.cells #[.slice ac rc.length cc, .slice av l.length cv2] 34)
  have hba := Blk.new w [.slice ac rc.length cc, .slice av l.length cv2] 34 rfl
  generalize w.alloc (.cells #[.slice ac rc.length cc, .slice av l.length cv2] 34) = w2 at *
  have HB := Lib.hid hBa
  have Hbx := Lib.hid hba
  have hz2 := hBa.size
  have hlx := hba.lt
  have Hrc2 := Lib.hid (Sl.below Hrc.out Strs.loc HB.out hhc)
  have Hv2 := Lib.hid (Sl.below Hv.out rowE_loc HB.out hhi)
  have Hf2 := Lib.hid (Sl.below Hf.out Strs.loc HB.out hh2)
  have Ht2 := Lib.hid (Sl.below Ht.out Strs.loc HB.out hh3)
  clear hBa hba Hrc Hv Hf Ht
  have hS0 : Below w2.heap.size w2 w2.drew := (Below.refl _ _).drew
  refine wp_region_held_drew (S := fun w' => Below w2.heap.size w2 w') (by kernel_rfl) hS0 (fun hHeld => ?_)
  refine wpAnyH_take (i := 0) (v := .slice pf fs.length cf) rfl (by kernel_rfl) (by kernel_rfl) (by kernel_rfl) (fun _ _ _ h => h) (Or.inl ⟨by rfl, ?_⟩) hHeld ?_
  · intro w' hSw; go_simp
  try simp only [Act.put, List.getElem_toArray, List.getElem_cons_succ, List.getElem_cons_zero, List.setIfInBounds_toArray, List.set_cons_zero, List.set_cons_succ]
  refine wpAnyH_take (i := 1) (v := .slice pt ts.length ct) rfl (by kernel_rfl) (by kernel_rfl) (by kernel_rfl) (fun _ _ _ h => h) (Or.inl ⟨by rfl, ?_⟩) hHeld ?_
  · intro w' hSw; go_simp
  try simp only [Act.put, List.getElem_toArray, List.getElem_cons_succ, List.getElem_cons_zero, List.setIfInBounds_toArray, List.set_cons_zero, List.set_cons_succ]
  refine wpAnyH_take (i := 4) (v := .pointer (some ⟨w.heap.size, 0, none⟩)) rfl (by kernel_rfl) (by kernel_rfl) (by kernel_rfl) (fun _ _ _ h => h) (Or.inl ⟨by rfl, ?_⟩) hHeld ?_
  · intro w' hSw; go_simp
  try simp only [Act.put, List.getElem_toArray, List.getElem_cons_succ, List.getElem_cons_zero, List.setIfInBounds_toArray, List.set_cons_zero, List.set_cons_succ]
  refine wpAnyH_take (i := 5) (v := .slice ac rc.length cc) rfl (by kernel_rfl) (by kernel_rfl) (by kernel_rfl) (fun _ _ _ h => h) (Or.inl ⟨by rfl, ?_⟩) hHeld ?_
  · intro w' hSw; obtain ⟨z0, z1⟩ := (Hbx.out.below hSw hlx).cells.c2; simp only [Nat.zero_add] at z1; go_simp
  try simp only [Act.put, List.getElem_toArray, List.getElem_cons_succ, List.getElem_cons_zero, List.setIfInBounds_toArray, List.set_cons_zero, List.set_cons_succ]
  refine wpAnyH_ready (rs := [2, 10]) (by kernel_rfl) (by simp) ?_
  refine allVal (v := .slice (some ⟨w2.drew.heap.size, 0, none⟩) 2 2) (w' := (w2.drew.alloc (.cells #[.slice pf fs.length cf, .slice pt ts.length ct] 31))) rfl (by kernel_rfl) (by go_simp) (hHeld.trans ((alloc_below w2.drew _).mono hHeld.size)) ?_ ?_
  · have hB := alloc_below w2.drew (.cells #[.slice pf fs.length cf, .slice pt ts.length ct] 31)
    have hcells := CellsAt.new w2.drew [.slice pf fs.length cf, .slice pt ts.length ct] 31
    have hbB : w2.drew.heap.size < (w2.drew.alloc (.cells #[.slice pf fs.length cf, .slice pt ts.length ct] 31)).heap.size := by simp
    obtain ⟨bB, ebB⟩ : ∃ b, b = w2.drew.heap.size := ⟨_, rfl⟩
    rw [← ebB] at hcells hbB ⊢
    generalize w2.drew.alloc (.cells #[.slice pf fs.length cf, .slice pt ts.length ct] 31) = wx1 at *
    have CB_1 := Lib.hid hcells
    have hlCB := hbB
    have hH1 := hHeld.trans (hB.mono hHeld.size)
    clear hHeld hB hcells hbB ebB
    have hHeld := hH1
    clear hH1
    try simp only [Act.put, List.getElem_toArray, List.getElem_cons_succ, List.getElem_cons_zero, List.setIfInBounds_toArray, List.set_cons_zero, List.set_cons_succ]
    refine wpAnyH_ready (rs := [3, 10]) (by kernel_rfl) (by simp) ?_
    refine allCall (f := 84) (args := #[.slice (some ⟨bB, 0, none⟩) 2 2]) rfl (by kernel_rfl) (by kernel_rfl) ?_ ?_
    · refine ConcatStr_any l2 h2 l3 h3 bB fs ts _ _ wx1 (Sl.below Hf2.out Strs.loc hHeld (by omega)) (by have := hHeld.size; omega) (Sl.below Ht2.out Strs.loc hHeld (by omega)) (by have := hHeld.size; omega) CB_1.out hlCB (by omega) (by omega) _ (fun wx2 vk hB ho => ?_)
      obtain ⟨pk, qk, rfl⟩ := Own.slice ho
      have OC_2 := Lib.hid (Own.lower ho (show w2.heap.size ≤ _ from hHeld.size))
      clear ho
      have hH2 := hHeld.trans (hB.mono hHeld.size)
      refine ⟨_, rfl, hH2, ?_⟩
      clear hHeld hB
      have hHeld := hH2
      clear hH2
      try simp only [Act.put, List.getElem_toArray, List.getElem_cons_succ, List.getElem_cons_zero, List.setIfInBounds_toArray, List.set_cons_zero, List.set_cons_succ]
      refine wpAnyH_ready (rs := [6, 10]) (by kernel_rfl) (by simp) ?_
      refine allCall (f := 75) (args := #[.slice pk (fs ++ ts).length qk, .slice ac rc.length cc]) rfl (by kernel_rfl) (by kernel_rfl) ?_ ?_
      · refine placesK_any w2.heap.size wx2.heap.size lc hc (fs ++ ts) rc _ _ wx2 (OwnT.sl OC_2.out) (Nat.le_refl _) (Sl.below Hrc2.out Strs.loc hHeld (by omega)) (by have := hHeld.size; omega) (by rw [List.length_append]; omega) _ (fun wx3 vk ks hB ho hks => ?_)
        obtain rfl := hks Hw.out
        rw [Hw.out]
        obtain ⟨pi, qi, rfl⟩ := Own.slice ho
        have OI_3 := Lib.hid (Own.lower ho (show w2.heap.size ≤ _ from hHeld.size))
        clear ho hks
        have hH3 := hHeld.trans (hB.mono hHeld.size)
        refine ⟨_, rfl, hH3, ?_⟩
        clear hHeld hB
        have hHeld := hH3
        clear hH3
        try simp only [Act.put, List.getElem_toArray, List.getElem_cons_succ, List.getElem_cons_zero, List.setIfInBounds_toArray, List.set_cons_zero, List.set_cons_succ]
        refine wpAnyH_take (i := 7) (v := .tuple #[.slice pi (placesL (fs ++ ts) rc).length qi, .bool true]) rfl (by kernel_rfl) (by kernel_rfl) (by kernel_rfl) (fun _ _ _ h => h) (Or.inl ⟨by rfl, ?_⟩) hHeld ?_
        · intro w' hSw; go_simp
        try simp only [Act.put, List.getElem_toArray, List.getElem_cons_succ, List.getElem_cons_zero, List.setIfInBounds_toArray, List.set_cons_zero, List.set_cons_succ]
        refine wpAnyH_take (i := 8) (v := .slice pi (placesL (fs ++ ts) rc).length qi) rfl (by kernel_rfl) (by kernel_rfl) (by kernel_rfl) (fun _ _ _ h => h) (Or.inl ⟨by rfl, ?_⟩) hHeld ?_
        · intro w' hSw; go_simp
        try simp only [Act.put, List.getElem_toArray, List.getElem_cons_succ, List.getElem_cons_zero, List.setIfInBounds_toArray, List.set_cons_zero, List.set_cons_succ]
        refine wpAnyH_take (i := 9) (v := .bool true) rfl (by kernel_rfl) (by kernel_rfl) (by kernel_rfl) (fun _ _ _ h => h) (Or.inl ⟨by rfl, ?_⟩) hHeld ?_
        · intro w' hSw; go_simp
        try simp only [Act.put, List.getElem_toArray, List.getElem_cons_succ, List.getElem_cons_zero, List.setIfInBounds_toArray, List.set_cons_zero, List.set_cons_succ]
        refine wpAnyH_ready (rs := [10]) (by kernel_rfl) (by simp) ?_
        refine allVal (v := .pointer (some ⟨wx3.heap.size, 0, none⟩)) (w' := (wx3.alloc (.cells #[.slice none 0 0] 84))) rfl (by kernel_rfl) (by go_simp) (hHeld.trans ((alloc_below wx3 _).mono hHeld.size)) ?_ AllReadyH.nil
        have hB := alloc_below wx3 (.cells #[.slice none 0 0] 84)
        have hbk := Blk.new wx3 [.slice none 0 0] 84 rfl
        obtain ⟨bA, ebA⟩ : ∃ b, b = wx3.heap.size := ⟨_, rfl⟩
        have hlbA : w2.heap.size ≤ bA := by rw [ebA]; exact hHeld.size
        rw [← ebA] at hbk ⊢
        have OI_4 := Lib.hid (Own.kept OI_3.out hB)
        generalize wx3.alloc (.cells #[.slice none 0 0] 84) = wx4 at *
        have BA_4 := Lib.hid hbk
        have hH4 := hHeld.trans (hB.mono hHeld.size)
        clear hHeld hB hbk ebA
        have hHeld := hH4
        clear hH4
        try simp only [Act.put, List.getElem_toArray, List.getElem_cons_succ, List.getElem_cons_zero, List.setIfInBounds_toArray, List.set_cons_zero, List.set_cons_succ]
        refine wpAnyH_ready (rs := [11]) (by kernel_rfl) (by simp) ?_
        refine allSkip (w' := (wx4.setCell ⟨bA, 0, none⟩ (.slice pi (placesL (fs ++ ts) rc).length qi))) rfl (by kernel_rfl) (by have g0 := BA_4.out.cells.c1; have f0 := BA_4.out.free 0; go_simp) (hHeld.setCell (p := ⟨bA, 0, none⟩) hlbA _) ?_ AllReadyH.nil
        have hbk := BA_4.out.set 0 (.slice pi (placesL (fs ++ ts) rc).length qi)
        have hoi := Own.setOther OI_4.out (p := ⟨bA, 0, none⟩) (Own.ne_blk OI_4.out BA_4.out (by decide)) (.slice pi (placesL (fs ++ ts) rc).length qi)
        have hH5 := hHeld.setCell (p := ⟨bA, 0, none⟩) hlbA (.slice pi (placesL (fs ++ ts) rc).length qi)
        generalize wx4.setCell ⟨bA, 0, none⟩ (.slice pi (placesL (fs ++ ts) rc).length qi) = wx5 at *
        have BA_5 := Lib.hid hbk
        have OI_5 := Lib.hid hoi
        clear hHeld hbk hoi
        have hHeld := hH5
        clear hH5
        try simp only [Act.put, List.getElem_toArray, List.getElem_cons_succ, List.getElem_cons_zero, List.setIfInBounds_toArray, List.set_cons_zero, List.set_cons_succ]
        refine wpAnyH_take (i := 12) (v := .bool true) rfl (by kernel_rfl) (by kernel_rfl) (by kernel_rfl) (fun _ _ _ h => h) (Or.inl ⟨by rfl, ?_⟩) hHeld ?_
        · intro w' hSw; go_simp
        try simp only [Act.put, List.getElem_toArray, List.getElem_cons_succ, List.getElem_cons_zero, List.setIfInBounds_toArray, List.set_cons_zero, List.set_cons_succ]
        have HH2 := Lib.hid hHeld
        refine wpAnyH_done (by kernel_rfl) ?_ _
        clear hHeld
        have HBW := Lib.hid (HB.out.trans (HH2.out.mono hz2))
        have hzW := HH2.out.size
        obtain ⟨z0, z1⟩ := (Hbx.out.below HH2.out hlx).cells.c2
        simp only [Nat.zero_add] at z1
        go_wp2_with fail
        refine gather_any lo hi l _ 117 #[.pointer (some ⟨bA, 0, none⟩)] (fun x => some (pickL x (placesL (fs ++ ts) rc))) wx5 (Sl.below Hv2.out rowE_loc HH2.out (by omega)) (by omega) (by omega) (enters_of Try.func117 (by kernel_rfl) rfl) (fun k hk xv w' R' hB' hx' hR' => ?_) _ (fun w6 v6 hs6 hB6 h6 => ?_)
        · have hz' := hB'.size
          refine sorted1_any lo hi w2.heap.size wx5.heap.size bA l[k] (placesL (fs ++ ts) rc) xv _ w' hx' (by omega) (Sl.below (OwnI.sl OI_5.out) Ints.loc hB' (Nat.le_refl _)) (by omega) (BA_5.out.below hB' BA_5.out.lt) (by rw [Hm.out _ (List.getElem_mem hk)]; exact places_ok Hw.out) (by unfold placesL; rw [List.length_map, List.length_append]; omega) R' (fun w'' yv hB'' ho'' => ?_)
          obtain ⟨a, c, e⟩ := Own.slice ho''
          exact hR' w'' yv hB'' (fun _ => ho'') ⟨a, _, c, e⟩
        rw [map_fm] at h6
        have HB6 := Lib.hid (HBW.out.trans (hB6.mono (by omega)))
        obtain ⟨p6, q6, e6⟩ := Own.slice h6.own
        have Hsr : Hid (∀ R, (∀ w' hs' xs', Only (fun z => v6.ownBlock = some z) w6 w' → OwnR wx5.heap.size w' v6 hs' xs' → xs'.Perm (l.map fun x => pickL x (placesL (fs ++ ts) rc)) → xs'.Pairwise (fun a b => ¬ cmpR b a < 0) → R (.returned (.tuple #[])) w') → Calls Try.prog 112 #[v6, .func (.func 24) #[] #[]] w6 R) := Lib.hid (fun R h => sortRows_any wx5.heap.size v6 hs6 _ w6 h6 (by rw [List.length_map]; omega) R h)
        have hlo6 : ∀ q, v6.ownBlock = some q → wx5.heap.size ≤ q := fun q e => (Own.lt h6.own q e).1
        have Hlo6 := Lib.hid hlo6
        have hz6 := hB6.size
        subst e6
        clear hB6 h6 hlo6 z0 z1
        go_wp2_with fail
        refine Hsr.out _ (fun w7 hs7 ys hO7 hR7 hp7 hs7' => ?_)
        have hr := HR.out w7 _ hs7 ys (HB6.out.trans (hO7.below (by omega) (fun q e => by have := Hlo6.out q e; omega))) (hR7.lower (by omega)) hp7 hs7'
        clear hO7 hR7 hp7 hs7'
        go_wp2_with fail
        first | exact hr | exact fin hr rfl
      refine allVal (v := .pointer (some ⟨wx2.heap.size, 0, none⟩)) (w' := (wx2.alloc (.cells #[.slice none 0 0] 84))) rfl (by kernel_rfl) (by go_simp) (hHeld.trans ((alloc_below wx2 _).mono hHeld.size)) ?_ AllReadyH.nil
      have hB := alloc_below wx2 (.cells #[.slice none 0 0] 84)
      have hbk := Blk.new wx2 [.slice none 0 0] 84 rfl
      obtain ⟨bA, ebA⟩ : ∃ b, b = wx2.heap.size := ⟨_, rfl⟩
      have hlbA : w2.heap.size ≤ bA := by rw [ebA]; exact hHeld.size
      rw [← ebA] at hbk ⊢
      have OC_6 := Lib.hid (Own.kept OC_2.out hB)
      generalize wx2.alloc (.cells #[.slice none 0 0] 84) = wx6 at *
      have BA_6 := Lib.hid hbk
      have hH6 := hHeld.trans (hB.mono hHeld.size)
      clear hHeld hB hbk ebA
      have hHeld := hH6
      clear hH6
      try simp only [Act.put, List.getElem_toArray, List.getElem_cons_succ, List.getElem_cons_zero, List.setIfInBounds_toArray, List.set_cons_zero, List.set_cons_succ]
      refine wpAnyH_ready (rs := [6]) (by kernel_rfl) (by simp) ?_
      refine allCall (f := 75) (args := #[.slice pk (fs ++ ts).length qk, .slice ac rc.length cc]) rfl (by kernel_rfl) (by kernel_rfl) ?_ AllReadyH.nil
      refine placesK_any w2.heap.size wx6.heap.size lc hc (fs ++ ts) rc _ _ wx6 (OwnT.sl OC_6.out) (Nat.le_refl _) (Sl.below Hrc2.out Strs.loc hHeld (by omega)) (by have := hHeld.size; omega) (by rw [List.length_append]; omega) _ (fun wx7 vk ks hB ho hks => ?_)
      obtain rfl := hks Hw.out
      rw [Hw.out]
      obtain ⟨pi, qi, rfl⟩ := Own.slice ho
      have BA_7 := Lib.hid (BA_6.out.below hB BA_6.out.lt)
      have OI_7 := Lib.hid (Own.lower ho (show w2.heap.size ≤ _ from hHeld.size))
      clear ho hks
      have hH7 := hHeld.trans (hB.mono hHeld.size)
      refine ⟨_, rfl, hH7, ?_⟩
      clear hHeld hB
      have hHeld := hH7
      clear hH7
      try simp only [Act.put, List.getElem_toArray, List.getElem_cons_succ, List.getElem_cons_zero, List.setIfInBounds_toArray, List.set_cons_zero, List.set_cons_succ]
      refine wpAnyH_take (i := 7) (v := .tuple #[.slice pi (placesL (fs ++ ts) rc).length qi, .bool true]) rfl (by kernel_rfl) (by kernel_rfl) (by kernel_rfl) (fun _ _ _ h => h) (Or.inl ⟨by rfl, ?_⟩) hHeld ?_
      · intro w' hSw; go_simp
      try simp only [Act.put, List.getElem_toArray, List.getElem_cons_succ, List.getElem_cons_zero, List.setIfInBounds_toArray, List.set_cons_zero, List.set_cons_succ]
      refine wpAnyH_take (i := 8) (v := .slice pi (placesL (fs ++ ts) rc).length qi) rfl (by kernel_rfl) (by kernel_rfl) (by kernel_rfl) (fun _ _ _ h => h) (Or.inl ⟨by rfl, ?_⟩) hHeld ?_
      · intro w' hSw; go_simp
      try simp only [Act.put, List.getElem_toArray, List.getElem_cons_succ, List.getElem_cons_zero, List.setIfInBounds_toArray, List.set_cons_zero, List.set_cons_succ]
      refine wpAnyH_take (i := 9) (v := .bool true) rfl (by kernel_rfl) (by kernel_rfl) (by kernel_rfl) (fun _ _ _ h => h) (Or.inl ⟨by rfl, ?_⟩) hHeld ?_
      · intro w' hSw; go_simp
      try simp only [Act.put, List.getElem_toArray, List.getElem_cons_succ, List.getElem_cons_zero, List.setIfInBounds_toArray, List.set_cons_zero, List.set_cons_succ]
      refine wpAnyH_ready (rs := [11]) (by kernel_rfl) (by simp) ?_
      refine allSkip (w' := (wx7.setCell ⟨bA, 0, none⟩ (.slice pi (placesL (fs ++ ts) rc).length qi))) rfl (by kernel_rfl) (by have g0 := BA_7.out.cells.c1; have f0 := BA_7.out.free 0; go_simp) (hHeld.setCell (p := ⟨bA, 0, none⟩) hlbA _) ?_ AllReadyH.nil
      have hbk := BA_7.out.set 0 (.slice pi (placesL (fs ++ ts) rc).length qi)
      have hoi := Own.setOther OI_7.out (p := ⟨bA, 0, none⟩) (Own.ne_blk OI_7.out BA_7.out (by decide)) (.slice pi (placesL (fs ++ ts) rc).length qi)
      have hH8 := hHeld.setCell (p := ⟨bA, 0, none⟩) hlbA (.slice pi (placesL (fs ++ ts) rc).length qi)
      generalize wx7.setCell ⟨bA, 0, none⟩ (.slice pi (placesL (fs ++ ts) rc).length qi) = wx8 at *
      have BA_8 := Lib.hid hbk
      have OI_8 := Lib.hid hoi
      clear hHeld hbk hoi
      have hHeld := hH8
      clear hH8
      try simp only [Act.put, List.getElem_toArray, List.getElem_cons_succ, List.getElem_cons_zero, List.setIfInBounds_toArray, List.set_cons_zero, List.set_cons_succ]
      refine wpAnyH_take (i := 12) (v := .bool true) rfl (by kernel_rfl) (by kernel_rfl) (by kernel_rfl) (fun _ _ _ h => h) (Or.inl ⟨by rfl, ?_⟩) hHeld ?_
      · intro w' hSw; go_simp
      try simp only [Act.put, List.getElem_toArray, List.getElem_cons_succ, List.getElem_cons_zero, List.setIfInBounds_toArray, List.set_cons_zero, List.set_cons_succ]
      have HH2 := Lib.hid hHeld
      refine wpAnyH_done (by kernel_rfl) ?_ _
      clear hHeld
      have HBW := Lib.hid (HB.out.trans (HH2.out.mono hz2))
      have hzW := HH2.out.size
      obtain ⟨z0, z1⟩ := (Hbx.out.below HH2.out hlx).cells.c2
      simp only [Nat.zero_add] at z1
      go_wp2_with fail
      refine gather_any lo hi l _ 117 #[.pointer (some ⟨bA, 0, none⟩)] (fun x => some (pickL x (placesL (fs ++ ts) rc))) wx8 (Sl.below Hv2.out rowE_loc HH2.out (by omega)) (by omega) (by omega) (enters_of Try.func117 (by kernel_rfl) rfl) (fun k hk xv w' R' hB' hx' hR' => ?_) _ (fun w6 v6 hs6 hB6 h6 => ?_)
      · have hz' := hB'.size
        refine sorted1_any lo hi w2.heap.size wx8.heap.size bA l[k] (placesL (fs ++ ts) rc) xv _ w' hx' (by omega) (Sl.below (OwnI.sl OI_8.out) Ints.loc hB' (Nat.le_refl _)) (by omega) (BA_8.out.below hB' BA_8.out.lt) (by rw [Hm.out _ (List.getElem_mem hk)]; exact places_ok Hw.out) (by unfold placesL; rw [List.length_map, List.length_append]; omega) R' (fun w'' yv hB'' ho'' => ?_)
        obtain ⟨a, c, e⟩ := Own.slice ho''
        exact hR' w'' yv hB'' (fun _ => ho'') ⟨a, _, c, e⟩
      rw [map_fm] at h6
      have HB6 := Lib.hid (HBW.out.trans (hB6.mono (by omega)))
      obtain ⟨p6, q6, e6⟩ := Own.slice h6.own
      have Hsr : Hid (∀ R, (∀ w' hs' xs', Only (fun z => v6.ownBlock = some z) w6 w' → OwnR wx8.heap.size w' v6 hs' xs' → xs'.Perm (l.map fun x => pickL x (placesL (fs ++ ts) rc)) → xs'.Pairwise (fun a b => ¬ cmpR b a < 0) → R (.returned (.tuple #[])) w') → Calls Try.prog 112 #[v6, .func (.func 24) #[] #[]] w6 R) := Lib.hid (fun R h => sortRows_any wx8.heap.size v6 hs6 _ w6 h6 (by rw [List.length_map]; omega) R h)
      have hlo6 : ∀ q, v6.ownBlock = some q → wx8.heap.size ≤ q := fun q e => (Own.lt h6.own q e).1
      have Hlo6 := Lib.hid hlo6
      have hz6 := hB6.size
      subst e6
      clear hB6 h6 hlo6 z0 z1
      go_wp2_with fail
      refine Hsr.out _ (fun w7 hs7 ys hO7 hR7 hp7 hs7' => ?_)
      have hr := HR.out w7 _ hs7 ys (HB6.out.trans (hO7.below (by omega) (fun q e => by have := Hlo6.out q e; omega))) (hR7.lower (by omega)) hp7 hs7'
      clear hO7 hR7 hp7 hs7'
      go_wp2_with fail
      first | exact hr | exact fin hr rfl
    refine allVal (v := .pointer (some ⟨wx1.heap.size, 0, none⟩)) (w' := (wx1.alloc (.cells #[.slice none 0 0] 84))) rfl (by kernel_rfl) (by go_simp) (hHeld.trans ((alloc_below wx1 _).mono hHeld.size)) ?_ AllReadyH.nil
    have hB := alloc_below wx1 (.cells #[.slice none 0 0] 84)
    have hbk := Blk.new wx1 [.slice none 0 0] 84 rfl
    obtain ⟨bA, ebA⟩ : ∃ b, b = wx1.heap.size := ⟨_, rfl⟩
    have hlbA : w2.heap.size ≤ bA := by rw [ebA]; exact hHeld.size
    rw [← ebA] at hbk ⊢
    have CB_9 := Lib.hid (CB_1.out.agree (.below hB (Nat.le_refl _)) (Nat.zero_le _) hlCB)
    have hlCB : bB < (wx1.alloc (.cells #[.slice none 0 0] 84)).heap.size := Nat.lt_of_lt_of_le hlCB hB.size
    generalize wx1.alloc (.cells #[.slice none 0 0] 84) = wx9 at *
    have BA_9 := Lib.hid hbk
    have hH9 := hHeld.trans (hB.mono hHeld.size)
    clear hHeld hB hbk ebA
    have hHeld := hH9
    clear hH9
    try simp only [Act.put, List.getElem_toArray, List.getElem_cons_succ, List.getElem_cons_zero, List.setIfInBounds_toArray, List.set_cons_zero, List.set_cons_succ]
    refine wpAnyH_ready (rs := [3]) (by kernel_rfl) (by simp) ?_
    refine allCall (f := 84) (args := #[.slice (some ⟨bB, 0, none⟩) 2 2]) rfl (by kernel_rfl) (by kernel_rfl) ?_ AllReadyH.nil
    refine ConcatStr_any l2 h2 l3 h3 bB fs ts _ _ wx9 (Sl.below Hf2.out Strs.loc hHeld (by omega)) (by have := hHeld.size; omega) (Sl.below Ht2.out Strs.loc hHeld (by omega)) (by have := hHeld.size; omega) CB_9.out hlCB (by omega) (by omega) _ (fun wx10 vk hB ho => ?_)
    obtain ⟨pk, qk, rfl⟩ := Own.slice ho
    have BA_10 := Lib.hid (BA_9.out.below hB BA_9.out.lt)
    have OC_10 := Lib.hid (Own.lower ho (show w2.heap.size ≤ _ from hHeld.size))
    clear ho
    have hH10 := hHeld.trans (hB.mono hHeld.size)
    refine ⟨_, rfl, hH10, ?_⟩
    clear hHeld hB
    have hHeld := hH10
    clear hH10
    try simp only [Act.put, List.getElem_toArray, List.getElem_cons_succ, List.getElem_cons_zero, List.setIfInBounds_toArray, List.set_cons_zero, List.set_cons_succ]
    refine wpAnyH_ready (rs := [6]) (by kernel_rfl) (by simp) ?_
    refine allCall (f := 75) (args := #[.slice pk (fs ++ ts).length qk, .slice ac rc.length cc]) rfl (by kernel_rfl) (by kernel_rfl) ?_ AllReadyH.nil
    refine placesK_any w2.heap.size wx10.heap.size lc hc (fs ++ ts) rc _ _ wx10 (OwnT.sl OC_10.out) (Nat.le_refl _) (Sl.below Hrc2.out Strs.loc hHeld (by omega)) (by have := hHeld.size; omega) (by rw [List.length_append]; omega) _ (fun wx11 vk ks hB ho hks => ?_)
    obtain rfl := hks Hw.out
    rw [Hw.out]
    obtain ⟨pi, qi, rfl⟩ := Own.slice ho
    have BA_11 := Lib.hid (BA_10.out.below hB BA_10.out.lt)
    have OI_11 := Lib.hid (Own.lower ho (show w2.heap.size ≤ _ from hHeld.size))
    clear ho hks
    have hH11 := hHeld.trans (hB.mono hHeld.size)
    refine ⟨_, rfl, hH11, ?_⟩
    clear hHeld hB
    have hHeld := hH11
    clear hH11
    try simp only [Act.put, List.getElem_toArray, List.getElem_cons_succ, List.getElem_cons_zero, List.setIfInBounds_toArray, List.set_cons_zero, List.set_cons_succ]
    refine wpAnyH_take (i := 7) (v := .tuple #[.slice pi (placesL (fs ++ ts) rc).length qi, .bool true]) rfl (by kernel_rfl) (by kernel_rfl) (by kernel_rfl) (fun _ _ _ h => h) (Or.inl ⟨by rfl, ?_⟩) hHeld ?_
    · intro w' hSw; go_simp
    try simp only [Act.put, List.getElem_toArray, List.getElem_cons_succ, List.getElem_cons_zero, List.setIfInBounds_toArray, List.set_cons_zero, List.set_cons_succ]
    refine wpAnyH_take (i := 8) (v := .slice pi (placesL (fs ++ ts) rc).length qi) rfl (by kernel_rfl) (by kernel_rfl) (by kernel_rfl) (fun _ _ _ h => h) (Or.inl ⟨by rfl, ?_⟩) hHeld ?_
    · intro w' hSw; go_simp
    try simp only [Act.put, List.getElem_toArray, List.getElem_cons_succ, List.getElem_cons_zero, List.setIfInBounds_toArray, List.set_cons_zero, List.set_cons_succ]
    refine wpAnyH_take (i := 9) (v := .bool true) rfl (by kernel_rfl) (by kernel_rfl) (by kernel_rfl) (fun _ _ _ h => h) (Or.inl ⟨by rfl, ?_⟩) hHeld ?_
    · intro w' hSw; go_simp
    try simp only [Act.put, List.getElem_toArray, List.getElem_cons_succ, List.getElem_cons_zero, List.setIfInBounds_toArray, List.set_cons_zero, List.set_cons_succ]
    refine wpAnyH_ready (rs := [11]) (by kernel_rfl) (by simp) ?_
    refine allSkip (w' := (wx11.setCell ⟨bA, 0, none⟩ (.slice pi (placesL (fs ++ ts) rc).length qi))) rfl (by kernel_rfl) (by have g0 := BA_11.out.cells.c1; have f0 := BA_11.out.free 0; go_simp) (hHeld.setCell (p := ⟨bA, 0, none⟩) hlbA _) ?_ AllReadyH.nil
    have hbk := BA_11.out.set 0 (.slice pi (placesL (fs ++ ts) rc).length qi)
    have hoi := Own.setOther OI_11.out (p := ⟨bA, 0, none⟩) (Own.ne_blk OI_11.out BA_11.out (by decide)) (.slice pi (placesL (fs ++ ts) rc).length qi)
    have hH12 := hHeld.setCell (p := ⟨bA, 0, none⟩) hlbA (.slice pi (placesL (fs ++ ts) rc).length qi)
    generalize wx11.setCell ⟨bA, 0, none⟩ (.slice pi (placesL (fs ++ ts) rc).length qi) = wx12 at *
    have BA_12 := Lib.hid hbk
    have OI_12 := Lib.hid hoi
    clear hHeld hbk hoi
    have hHeld := hH12
    clear hH12
    try simp only [Act.put, List.getElem_toArray, List.getElem_cons_succ, List.getElem_cons_zero, List.setIfInBounds_toArray, List.set_cons_zero, List.set_cons_succ]
    refine wpAnyH_take (i := 12) (v := .bool true) rfl (by kernel_rfl) (by kernel_rfl) (by kernel_rfl) (fun _ _ _ h => h) (Or.inl ⟨by rfl, ?_⟩) hHeld ?_
    · intro w' hSw; go_simp
    try simp only [Act.put, List.getElem_toArray, List.getElem_cons_succ, List.getElem_cons_zero, List.setIfInBounds_toArray, List.set_cons_zero, List.set_cons_succ]
    have HH2 := Lib.hid hHeld
    refine wpAnyH_done (by kernel_rfl) ?_ _
    clear hHeld
    have HBW := Lib.hid (HB.out.trans (HH2.out.mono hz2))
    have hzW := HH2.out.size
    obtain ⟨z0, z1⟩ := (Hbx.out.below HH2.out hlx).cells.c2
    simp only [Nat.zero_add] at z1
    go_wp2_with fail
    refine gather_any lo hi l _ 117 #[.pointer (some ⟨bA, 0, none⟩)] (fun x => some (pickL x (placesL (fs ++ ts) rc))) wx12 (Sl.below Hv2.out rowE_loc HH2.out (by omega)) (by omega) (by omega) (enters_of Try.func117 (by kernel_rfl) rfl) (fun k hk xv w' R' hB' hx' hR' => ?_) _ (fun w6 v6 hs6 hB6 h6 => ?_)
    · have hz' := hB'.size
      refine sorted1_any lo hi w2.heap.size wx12.heap.size bA l[k] (placesL (fs ++ ts) rc) xv _ w' hx' (by omega) (Sl.below (OwnI.sl OI_12.out) Ints.loc hB' (Nat.le_refl _)) (by omega) (BA_12.out.below hB' BA_12.out.lt) (by rw [Hm.out _ (List.getElem_mem hk)]; exact places_ok Hw.out) (by unfold placesL; rw [List.length_map, List.length_append]; omega) R' (fun w'' yv hB'' ho'' => ?_)
      obtain ⟨a, c, e⟩ := Own.slice ho''
      exact hR' w'' yv hB'' (fun _ => ho'') ⟨a, _, c, e⟩
    rw [map_fm] at h6
    have HB6 := Lib.hid (HBW.out.trans (hB6.mono (by omega)))
    obtain ⟨p6, q6, e6⟩ := Own.slice h6.own
    have Hsr : Hid (∀ R, (∀ w' hs' xs', Only (fun z => v6.ownBlock = some z) w6 w' → OwnR wx12.heap.size w' v6 hs' xs' → xs'.Perm (l.map fun x => pickL x (placesL (fs ++ ts) rc)) → xs'.Pairwise (fun a b => ¬ cmpR b a < 0) → R (.returned (.tuple #[])) w') → Calls Try.prog 112 #[v6, .func (.func 24) #[] #[]] w6 R) := Lib.hid (fun R h => sortRows_any wx12.heap.size v6 hs6 _ w6 h6 (by rw [List.length_map]; omega) R h)
    have hlo6 : ∀ q, v6.ownBlock = some q → wx12.heap.size ≤ q := fun q e => (Own.lt h6.own q e).1
    have Hlo6 := Lib.hid hlo6
    have hz6 := hB6.size
    subst e6
    clear hB6 h6 hlo6 z0 z1
    go_wp2_with fail
    refine Hsr.out _ (fun w7 hs7 ys hO7 hR7 hp7 hs7' => ?_)
    have hr := HR.out w7 _ hs7 ys (HB6.out.trans (hO7.below (by omega) (fun q e => by have := Hlo6.out q e; omega))) (hR7.lower (by omega)) hp7 hs7'
    clear hO7 hR7 hp7 hs7'
    go_wp2_with fail
    first | exact hr | exact fin hr rfl
  refine allVal (v := .pointer (some ⟨w2.drew.heap.size, 0, none⟩)) (w' := (w2.drew.alloc (.cells #[.slice none 0 0] 84))) rfl (by kernel_rfl) (by go_simp) (hHeld.trans ((alloc_below w2.drew _).mono hHeld.size)) ?_ AllReadyH.nil
  have hB := alloc_below w2.drew (.cells #[.slice none 0 0] 84)
  have hbk := Blk.new w2.drew [.slice none 0 0] 84 rfl
  obtain ⟨bA, ebA⟩ : ∃ b, b = w2.drew.heap.size := ⟨_, rfl⟩
  have hlbA : w2.heap.size ≤ bA := by rw [ebA]; exact hHeld.size
  rw [← ebA] at hbk ⊢
  generalize w2.drew.alloc (.cells #[.slice none 0 0] 84) = wx13 at *
  have BA_13 := Lib.hid hbk
  have hH13 := hHeld.trans (hB.mono hHeld.size)
  clear hHeld hB hbk ebA
  have hHeld := hH13
  clear hH13
  try simp only [Act.put, List.getElem_toArray, List.getElem_cons_succ, List.getElem_cons_zero, List.setIfInBounds_toArray, List.set_cons_zero, List.set_cons_succ]
  refine wpAnyH_ready (rs := [2]) (by kernel_rfl) (by simp) ?_
  refine allVal (v := .slice (some ⟨wx13.heap.size, 0, none⟩) 2 2) (w' := (wx13.alloc (.cells #[.slice pf fs.length cf, .slice pt ts.length ct] 31))) rfl (by kernel_rfl) (by go_simp) (hHeld.trans ((alloc_below wx13 _).mono hHeld.size)) ?_ AllReadyH.nil
  have hB := alloc_below wx13 (.cells #[.slice pf fs.length cf, .slice pt ts.length ct] 31)
  have hcells := CellsAt.new wx13 [.slice pf fs.length cf, .slice pt ts.length ct] 31
  have hbB : wx13.heap.size < (wx13.alloc (.cells #[.slice pf fs.length cf, .slice pt ts.length ct] 31)).heap.size := by simp
  obtain ⟨bB, ebB⟩ : ∃ b, b = wx13.heap.size := ⟨_, rfl⟩
  rw [← ebB] at hcells hbB ⊢
  have BA_14 := Lib.hid (BA_13.out.below hB BA_13.out.lt)
  generalize wx13.alloc (.cells #[.slice pf fs.length cf, .slice pt ts.length ct] 31) = wx14 at *
  have CB_14 := Lib.hid hcells
  have hlCB := hbB
  have hH14 := hHeld.trans (hB.mono hHeld.size)
  clear hHeld hB hcells hbB ebB
  have hHeld := hH14
  clear hH14
  try simp only [Act.put, List.getElem_toArray, List.getElem_cons_succ, List.getElem_cons_zero, List.setIfInBounds_toArray, List.set_cons_zero, List.set_cons_succ]
  refine wpAnyH_ready (rs := [3]) (by kernel_rfl) (by simp) ?_
  refine allCall (f := 84) (args := #[.slice (some ⟨bB, 0, none⟩) 2 2]) rfl (by kernel_rfl) (by kernel_rfl) ?_ AllReadyH.nil
  refine ConcatStr_any l2 h2 l3 h3 bB fs ts _ _ wx14 (Sl.below Hf2.out Strs.loc hHeld (by omega)) (by have := hHeld.size; omega) (Sl.below Ht2.out Strs.loc hHeld (by omega)) (by have := hHeld.size; omega) CB_14.out hlCB (by omega) (by omega) _ (fun wx15 vk hB ho => ?_)
  obtain ⟨pk, qk, rfl⟩ := Own.slice ho
  have BA_15 := Lib.hid (BA_14.out.below hB BA_14.out.lt)
  have OC_15 := Lib.hid (Own.lower ho (show w2.heap.size ≤ _ from hHeld.size))
  clear ho
  have hH15 := hHeld.trans (hB.mono hHeld.size)
  refine ⟨_, rfl, hH15, ?_⟩
  clear hHeld hB
  have hHeld := hH15
  clear hH15
  try simp only [Act.put, List.getElem_toArray, List.getElem_cons_succ, List.getElem_cons_zero, List.setIfInBounds_toArray, List.set_cons_zero, List.set_cons_succ]
  refine wpAnyH_ready (rs := [6]) (by kernel_rfl) (by simp) ?_
  refine allCall (f := 75) (args := #[.slice pk (fs ++ ts).length qk, .slice ac rc.length cc]) rfl (by kernel_rfl) (by kernel_rfl) ?_ AllReadyH.nil
  refine placesK_any w2.heap.size wx15.heap.size lc hc (fs ++ ts) rc _ _ wx15 (OwnT.sl OC_15.out) (Nat.le_refl _) (Sl.below Hrc2.out Strs.loc hHeld (by omega)) (by have := hHeld.size; omega) (by rw [List.length_append]; omega) _ (fun wx16 vk ks hB ho hks => ?_)
  obtain rfl := hks Hw.out
  rw [Hw.out]
  obtain ⟨pi, qi, rfl⟩ := Own.slice ho
  have BA_16 := Lib.hid (BA_15.out.below hB BA_15.out.lt)
  have OI_16 := Lib.hid (Own.lower ho (show w2.heap.size ≤ _ from hHeld.size))
  clear ho hks
  have hH16 := hHeld.trans (hB.mono hHeld.size)
  refine ⟨_, rfl, hH16, ?_⟩
  clear hHeld hB
  have hHeld := hH16
  clear hH16
  try simp only [Act.put, List.getElem_toArray, List.getElem_cons_succ, List.getElem_cons_zero, List.setIfInBounds_toArray, List.set_cons_zero, List.set_cons_succ]
  refine wpAnyH_take (i := 7) (v := .tuple #[.slice pi (placesL (fs ++ ts) rc).length qi, .bool true]) rfl (by kernel_rfl) (by kernel_rfl) (by kernel_rfl) (fun _ _ _ h => h) (Or.inl ⟨by rfl, ?_⟩) hHeld ?_
  · intro w' hSw; go_simp
  try simp only [Act.put, List.getElem_toArray, List.getElem_cons_succ, List.getElem_cons_zero, List.setIfInBounds_toArray, List.set_cons_zero, List.set_cons_succ]
  refine wpAnyH_take (i := 8) (v := .slice pi (placesL (fs ++ ts) rc).length qi) rfl (by kernel_rfl) (by kernel_rfl) (by kernel_rfl) (fun _ _ _ h => h) (Or.inl ⟨by rfl, ?_⟩) hHeld ?_
  · intro w' hSw; go_simp
  try simp only [Act.put, List.getElem_toArray, List.getElem_cons_succ, List.getElem_cons_zero, List.setIfInBounds_toArray, List.set_cons_zero, List.set_cons_succ]
  refine wpAnyH_take (i := 9) (v := .bool true) rfl (by kernel_rfl) (by kernel_rfl) (by kernel_rfl) (fun _ _ _ h => h) (Or.inl ⟨by rfl, ?_⟩) hHeld ?_
  · intro w' hSw; go_simp
  try simp only [Act.put, List.getElem_toArray, List.getElem_cons_succ, List.getElem_cons_zero, List.setIfInBounds_toArray, List.set_cons_zero, List.set_cons_succ]
  refine wpAnyH_ready (rs := [11]) (by kernel_rfl) (by simp) ?_
  refine allSkip (w' := (wx16.setCell ⟨bA, 0, none⟩ (.slice pi (placesL (fs ++ ts) rc).length qi))) rfl (by kernel_rfl) (by have g0 := BA_16.out.cells.c1; have f0 := BA_16.out.free 0; go_simp) (hHeld.setCell (p := ⟨bA, 0, none⟩) hlbA _) ?_ AllReadyH.nil
  have hbk := BA_16.out.set 0 (.slice pi (placesL (fs ++ ts) rc).length qi)
  have hoi := Own.setOther OI_16.out (p := ⟨bA, 0, none⟩) (Own.ne_blk OI_16.out BA_16.out (by decide)) (.slice pi (placesL (fs ++ ts) rc).length qi)
  have hH17 := hHeld.setCell (p := ⟨bA, 0, none⟩) hlbA (.slice pi (placesL (fs ++ ts) rc).length qi)
  generalize wx16.setCell ⟨bA, 0, none⟩ (.slice pi (placesL (fs ++ ts) rc).length qi) = wx17 at *
  have BA_17 := Lib.hid hbk
  have OI_17 := Lib.hid hoi
  clear hHeld hbk hoi
  have hHeld := hH17
  clear hH17
  try simp only [Act.put, List.getElem_toArray, List.getElem_cons_succ, List.getElem_cons_zero, List.setIfInBounds_toArray, List.set_cons_zero, List.set_cons_succ]
  refine wpAnyH_take (i := 12) (v := .bool true) rfl (by kernel_rfl) (by kernel_rfl) (by kernel_rfl) (fun _ _ _ h => h) (Or.inl ⟨by rfl, ?_⟩) hHeld ?_
  · intro w' hSw; go_simp
  try simp only [Act.put, List.getElem_toArray, List.getElem_cons_succ, List.getElem_cons_zero, List.setIfInBounds_toArray, List.set_cons_zero, List.set_cons_succ]
  have HH2 := Lib.hid hHeld
  refine wpAnyH_done (by kernel_rfl) ?_ _
  clear hHeld
  have HBW := Lib.hid (HB.out.trans (HH2.out.mono hz2))
  have hzW := HH2.out.size
  obtain ⟨z0, z1⟩ := (Hbx.out.below HH2.out hlx).cells.c2
  simp only [Nat.zero_add] at z1
  go_wp2_with fail
  refine gather_any lo hi l _ 117 #[.pointer (some ⟨bA, 0, none⟩)] (fun x => some (pickL x (placesL (fs ++ ts) rc))) wx17 (Sl.below Hv2.out rowE_loc HH2.out (by omega)) (by omega) (by omega) (enters_of Try.func117 (by kernel_rfl) rfl) (fun k hk xv w' R' hB' hx' hR' => ?_) _ (fun w6 v6 hs6 hB6 h6 => ?_)
  · have hz' := hB'.size
    refine sorted1_any lo hi w2.heap.size wx17.heap.size bA l[k] (placesL (fs ++ ts) rc) xv _ w' hx' (by omega) (Sl.below (OwnI.sl OI_17.out) Ints.loc hB' (Nat.le_refl _)) (by omega) (BA_17.out.below hB' BA_17.out.lt) (by rw [Hm.out _ (List.getElem_mem hk)]; exact places_ok Hw.out) (by unfold placesL; rw [List.length_map, List.length_append]; omega) R' (fun w'' yv hB'' ho'' => ?_)
    obtain ⟨a, c, e⟩ := Own.slice ho''
    exact hR' w'' yv hB'' (fun _ => ho'') ⟨a, _, c, e⟩
  rw [map_fm] at h6
  have HB6 := Lib.hid (HBW.out.trans (hB6.mono (by omega)))
  obtain ⟨p6, q6, e6⟩ := Own.slice h6.own
  have Hsr : Hid (∀ R, (∀ w' hs' xs', Only (fun z => v6.ownBlock = some z) w6 w' → OwnR wx17.heap.size w' v6 hs' xs' → xs'.Perm (l.map fun x => pickL x (placesL (fs ++ ts) rc)) → xs'.Pairwise (fun a b => ¬ cmpR b a < 0) → R (.returned (.tuple #[])) w') → Calls Try.prog 112 #[v6, .func (.func 24) #[] #[]] w6 R) := Lib.hid (fun R h => sortRows_any wx17.heap.size v6 hs6 _ w6 h6 (by rw [List.length_map]; omega) R h)
  have hlo6 : ∀ q, v6.ownBlock = some q → wx17.heap.size ≤ q := fun q e => (Own.lt h6.own q e).1
  have Hlo6 := Lib.hid hlo6
  have hz6 := hB6.size
  subst e6
  clear hB6 h6 hlo6 z0 z1
  go_wp2_with fail
  refine Hsr.out _ (fun w7 hs7 ys hO7 hR7 hp7 hs7' => ?_)
  have hr := HR.out w7 _ hs7 ys (HB6.out.trans (hO7.below (by omega) (fun q e => by have := Hlo6.out q e; omega))) (hR7.lower (by omega)) hp7 hs7'
  clear hO7 hR7 hp7 hs7'
  go_wp2_with fail
  first | exact hr | exact fin hr rfl
end Go.Proofs.Ytpncblagjkbemaa
end

/- Or. (Printed by mec.py.) -/
section
set_option linter.unusedVariables false
set_option linter.unusedSimpArgs false
namespace Go.Proofs.Ytpncblagjkbemaa
open Go.RowKit
set_option linter.unusedVariables false
set_option linter.unusedSimpArgs false

def toHD (v : Value) : HD := match v with
  | .slice a n c => ⟨a, n, c⟩
  | _ => ⟨none, 0, 0⟩
theorem toHD_v {v : Value} (h : ∃ a n c, v = .slice a n c) : (toHD v).v = v := by
  obtain ⟨a, n, c, rfl⟩ := h
  rfl
theorem OwnR.slices {lo : Nat} {w : World} {v : Value} {hs : List Value} {xs : List (List V)} (h : OwnR lo w v hs xs) : ∀ u ∈ hs, ∃ a n c, u = .slice a n c := by
  intro u hu
  obtain ⟨i, hi, rfl⟩ := List.getElem_of_mem hu
  obtain ⟨p, c, e⟩ := Own.slice (h.row i hi (by rw [← h.len]; exact hi))
  exact ⟨p, _, c, e⟩
theorem hd_map {hs : List Value} (h : ∀ u ∈ hs, ∃ a n c, u = Value.slice a n c) : (hs.map toHD).flatMap HD.enc = hs.flatMap vE := by
  induction hs with
  | nil => rfl
  | cons u r ih =>
    obtain ⟨a, n, c, rfl⟩ := h u List.mem_cons_self
    rw [List.map_cons, List.flatMap_cons, List.flatMap_cons, ih (fun u hu => h u (List.mem_cons_of_mem _ hu))]
    rfl
theorem OwnR.hd {lo : Nat} {w : World} {v : Value} {hs : List Value} {xs : List (List V)} (h : OwnR lo w v hs xs) : OwnHD lo w v (hs.map toHD) := by
  show w.ownsRow lo _ 1 v (hs.map toHD).length ((hs.map toHD).flatMap HD.enc)
  rw [List.length_map, hd_map h.slices]
  exact h.own
theorem OwnR.hdSl {lo : Nat} {w : World} {v : Value} {hs : List Value} {xs : List (List V)} (h : OwnR lo w v hs xs) : Sl (flat HD.enc) 1 lo w.heap.size w v (hs.map toHD) := Sl.ofOwn (fun _ => rfl) h.hd
/-- Two lists of rows, one behind the other. -/
theorem OwnR.cat {lo : Nat} {w w' : World} {v1 v2 v' : Value} {hs1 hs2 : List Value} {xs ys : List (List V)} (h1 : OwnR lo w v1 hs1 xs) (h2 : OwnR lo w v2 hs2 ys) (hB : Below w.heap.size w w') (hlo : lo ≤ w.heap.size) (ho : OwnHD w.heap.size w' v' (hs1.map toHD ++ hs2.map toHD)) : OwnR lo w' v' (hs1 ++ hs2) (xs ++ ys) := by
  have hsl : ∀ u ∈ hs1 ++ hs2, ∃ a n c, u = Value.slice a n c := fun u hu => (List.mem_append.1 hu).elim (h1.slices u) (h2.slices u)
  have hown : OwnH w.heap.size w' v' (hs1 ++ hs2) := by
    rw [← List.map_append] at ho
    have ho : w'.ownsRow w.heap.size _ 1 v' ((hs1 ++ hs2).map toHD).length (((hs1 ++ hs2).map toHD).flatMap HD.enc) := ho
    rw [hd_map hsl, List.length_map] at ho
    exact ho
  have hrow : ∀ i (h : i < (hs1 ++ hs2).length) (h2 : i < (xs ++ ys).length), OwnV lo w (hs1 ++ hs2)[i] (xs ++ ys)[i] := by
    intro i hi hj
    by_cases hil : i < hs1.length
    · rw [List.getElem_append_left hil, List.getElem_append_left (by rw [← h1.len]; exact hil)]
      exact h1.row i hil _
    · have e := h1.len
      rw [List.getElem_append_right (by omega), List.getElem_append_right (by omega)]
      simp only [e]
      rw [List.length_append] at hi hj
      exact h2.row (i - xs.length) (by omega) (by omega)
  refine ⟨Own.lower hown hlo, by rw [List.length_append, List.length_append, h1.len, h2.len], fun i hi hj => Own.kept (hrow i hi hj) hB, fun i hi k hk e => ?_⟩
  have hj : i < (xs ++ ys).length := by rw [List.length_append] at *; have := h1.len; have := h2.len; omega
  have := (Own.lt (hrow i hi hj) k hk).2
  have := (Own.lt hown k e).1
  omega
def orErr (ac : List S) (la : List (List V)) (bc : List S) (lb : List (List V)) : Int :=
  if mayRel ac la && mayRel bc lb && withinB ac bc && decide (ac.length = bc.length) then madeErr ac (la ++ lb.map fun x => pickL x (placesL ac bc)) else 2
set_option maxRecDepth 100000 in
set_option maxHeartbeats 4000000 in
theorem Or_any (lca hca lra hra lcb hcb lrb hrb : Nat) (ac bc : List S) (pa pb : Option Addr) (ca cb : Nat) (la lb : List (List V)) (lva lvb : Value) (w : World) (ha : Strs lca hca w (.slice pa ac.length ca) ac) (hha : hca ≤ w.heap.size) (hla : Rws lra hra w lva la) (hhla : hra ≤ w.heap.size) (hb : Strs lcb hcb w (.slice pb bc.length cb) bc) (hhb : hcb ≤ w.heap.size) (hlb : Rws lrb hrb w lvb lb) (hhlb : hrb ≤ w.heap.size) (hl : ac.length ≤ 100000000) (R : Ending → World → Prop)
    (hR : ∀ w' cv2 lv2 hs, Below w.heap.size w w' → OwnT w.heap.size w' cv2 (okL (orErr ac la bc lb) ac) → OwnR w.heap.size w' lv2 hs (okL (orErr ac la bc lb) (relCanon (la ++ lb.map fun x => pickL x (placesL ac bc)))) → R (.returned (.tuple #[.agg #[cv2, lv2], .int .i64 (orErr ac la bc lb)])) w') :
    Calls Try.prog 43 #[.agg #[.slice pa ac.length ca, lva], .agg #[.slice pb bc.length cb, lvb]] w R := by
  have HR := Lib.hid hR
  have Ha := Lib.hid ha
  have Hb := Lib.hid hb
  have Hla := Lib.hid hla
  have Hlb := Lib.hid hlb
  obtain ⟨av, av2, rfl, -, -, -, -⟩ := hla.form
  obtain ⟨bv, bv2, rfl, -, -, -, -⟩ := hlb.form
  have hal63 := ha.len
  have hbl63 := hb.len
  clear hR ha hb hla hlb
  obtain ⟨wa, ewa⟩ : ∃ x, x = w.alloc (.cells #[.slice pa ac.length ca, .slice av la.length av2] 34) := ⟨_, rfl⟩
  obtain ⟨wb, ewb⟩ : ∃ x, x = wa.alloc (.cells #[.slice pb bc.length cb, .slice bv lb.length bv2] 34) := ⟨_, rfl⟩
  obtain ⟨w2, ew2⟩ : ∃ x, x = wb.alloc (.cells #[.slice none 0 0, .slice none 0 0] 34) := ⟨_, rfl⟩
  have sa : wa.heap.size = w.heap.size + 1 := by rw [ewa]; simp
  have sb : wb.heap.size = w.heap.size + 1 + 1 := by rw [ewb]; simp [sa]
  have hBa : Below w.heap.size w wa := by rw [ewa]; exact alloc_below _ _
  have hBb : Below wa.heap.size wa wb := by rw [ewb]; exact alloc_below _ _
  have hBc : Below wb.heap.size wb w2 := by rw [ew2]; exact alloc_below _ _
  have hb1 : Blk wa w.heap.size [.slice pa ac.length ca, .slice av la.length av2] 34 := by rw [ewa]; exact Blk.new w [.slice pa ac.length ca, .slice av la.length av2] _ rfl
  have hb2 : Blk wb (w.heap.size + 1) [.slice pb bc.length cb, .slice bv lb.length bv2] 34 := by rw [ewb]; exact Blk.new wa [.slice pb bc.length cb, .slice bv lb.length bv2] _ sa.symm
  have hb3 : Blk w2 (w.heap.size + 1 + 1) [.slice none 0 0, .slice none 0 0] 34 := by rw [ew2]; exact Blk.new wb [.slice none 0 0, .slice none 0 0] _ sb.symm
  have hb1 := (hb1.below hBb hb1.lt).below hBc (by omega)
  have hb2 := hb2.below hBc hb2.lt
  have hB := hBa.trans ((hBb.mono hBa.size).trans (hBc.mono (by omega)))
  go_enter Try.func43, Try.ntmps43
  go_upto_region 1 with fail
  rw [← ewa, ← ewb, ← ew2]
  clear ewa ewb ew2 hBa hBb hBc sa sb
  have HB := Lib.hid hB
  have Hb1 := Lib.hid hb1
  have Hb2 := Lib.hid hb2
  have Hb3 := Lib.hid hb3
  have hz2 := hB.size
  have hl3 := hb3.lt
  clear hb1 hb2 hb3 hB
  have Ha2 := Lib.hid (Sl.below Ha.out Strs.loc HB.out hha)
  have Hb2c := Lib.hid (Sl.below Hb.out Strs.loc HB.out hhb)
  have Hla2 := Lib.hid (Sl.below Hla.out rowE_loc HB.out hhla)
  have Hlb2 := Lib.hid (Sl.below Hlb.out rowE_loc HB.out hhlb)
  clear Ha Hb Hla Hlb
  obtain ⟨c0, c1⟩ := Hb1.out.cells.c2
  obtain ⟨d0, d1⟩ := Hb2.out.cells.c2
  simp only [Nat.zero_add] at c1 d1
  go_wp2_with fail
  refine placesK_any lca hca lcb hcb ac bc _ _ w2 Ha2.out (by omega) Hb2c.out (by omega) (by omega) _ (fun w3 v3 ks hB3 ho3 hks => ?_)
  obtain ⟨p3, q3, rfl⟩ := Own.slice ho3
  have Hks := Lib.hid hks
  have Ho3 := Lib.hid ho3
  have HA3 := Lib.hid hB3
  have hz3 := hB3.size
  clear hB3 ho3 hks c0 c1 d0 d1
  go_upto_region 2 with fail
  have hBa := alloc_below w3 (.cells #[.slice p3 ks.length q3] 84)
  have hba := Blk.new w3 [.slice p3 ks.length q3] 84 rfl
  generalize w3.alloc (.cells #[.slice p3 ks.length q3] 84) = w4 at *
  have HB34 := Lib.hid hBa
  have Hb4 := Lib.hid hba
  have hz4 := hBa.size
  have hl4 := hba.lt
  have HA4 := Lib.hid (HA3.out.trans (hBa.mono hz3))
  obtain ⟨c0, c1⟩ := (Hb1.out.below HA4.out (by omega)).cells.c2
  simp only [Nat.zero_add] at c1
  clear hBa hba
  go_wp2_with fail
  refine May_any lra hra lca hca ac _ _ la _ w4 (Sl.below Ha2.out Strs.loc HA4.out (by omega)) (by omega) (Sl.below Hla2.out rowE_loc HA4.out (by omega)) (by omega) _ (fun w5 hB5 => ?_)
  have HB45 := Lib.hid hB5
  have hz5 := hB5.size
  have HA5 := Lib.hid (HA4.out.trans (hB5.mono (by omega)))
  clear hB5 c0 c1
  cases hm : mayRel ac la
  · have hbE := Hb3.out.below HA5.out hl3
    obtain ⟨e0, e1⟩ := hbE.cells.c2
    have f0 := hbE.free 0
    have f1 := hbE.free 1
    simp only [Nat.zero_add] at e1
    have he : orErr ac la bc lb = 2 := by unfold orErr; rw [hm]; rfl
    obtain ⟨t1, t2, t3, t4⟩ := relTail (pc := none) (pr := none) (qc := 0) (qr := 0) hbE (show w.heap.size ≤ w.heap.size + 1 + 1 by omega) (HB.out.trans (Below.mono HA5.out hz2)) (Own.nil _ _ _ _ _) (OwnR.nil _ _)
    have hr := HR.out _ _ _ [] t1 (by rw [he]; exact t2) (by rw [he]; exact t3)
    rw [he] at hr
    have Hr := Lib.hid hr
    have Ht := Lib.hid t4
    clear hm hbE hr t1 t2 t3 t4 he
    go_wp2_with fail
    exact ret_cell_tmp rfl rfl Ht.out rfl rfl Hr.out
  have Hm := Lib.hid hm
  clear hm
  obtain ⟨c0, c1⟩ := (Hb2.out.below HA5.out (by omega)).cells.c2
  simp only [Nat.zero_add] at c1
  go_wp2_with fail
  refine May_any lrb hrb lcb hcb bc _ _ lb _ w5 (Sl.below Hb2c.out Strs.loc HA5.out (by omega)) (by omega) (Sl.below Hlb2.out rowE_loc HA5.out (by omega)) (by omega) _ (fun w6 hB6 => ?_)
  have HB46 := Lib.hid (HB45.out.trans (hB6.mono (by omega)))
  have hz6 := hB6.size
  have HA6 := Lib.hid (HA5.out.trans (hB6.mono (by omega)))
  clear hB6 c0 c1
  cases hm : mayRel bc lb
  · have hbE := Hb3.out.below HA6.out hl3
    obtain ⟨e0, e1⟩ := hbE.cells.c2
    have f0 := hbE.free 0
    have f1 := hbE.free 1
    simp only [Nat.zero_add] at e1
    have he : orErr ac la bc lb = 2 := by unfold orErr; rw [hm, Hm.out]; rfl
    obtain ⟨t1, t2, t3, t4⟩ := relTail (pc := none) (pr := none) (qc := 0) (qr := 0) hbE (show w.heap.size ≤ w.heap.size + 1 + 1 by omega) (HB.out.trans (Below.mono HA6.out hz2)) (Own.nil _ _ _ _ _) (OwnR.nil _ _)
    have hr := HR.out _ _ _ [] t1 (by rw [he]; exact t2) (by rw [he]; exact t3)
    rw [he] at hr
    have Hr := Lib.hid hr
    have Ht := Lib.hid t4
    clear hm hbE hr t1 t2 t3 t4 he
    go_wp2_with fail
    exact ret_cell_tmp rfl rfl Ht.out rfl rfl Hr.out
  have Hmb := Lib.hid hm
  clear hm
  cases hw : withinB ac bc
  · have hbE := Hb3.out.below HA6.out hl3
    obtain ⟨e0, e1⟩ := hbE.cells.c2
    have f0 := hbE.free 0
    have f1 := hbE.free 1
    simp only [Nat.zero_add] at e1
    have he : orErr ac la bc lb = 2 := by unfold orErr; rw [hw, Hm.out, Hmb.out]; rfl
    obtain ⟨t1, t2, t3, t4⟩ := relTail (pc := none) (pr := none) (qc := 0) (qr := 0) hbE (show w.heap.size ≤ w.heap.size + 1 + 1 by omega) (HB.out.trans (Below.mono HA6.out hz2)) (Own.nil _ _ _ _ _) (OwnR.nil _ _)
    have hr := HR.out _ _ _ [] t1 (by rw [he]; exact t2) (by rw [he]; exact t3)
    rw [he] at hr
    have Hr := Lib.hid hr
    have Ht := Lib.hid t4
    clear hw hbE hr t1 t2 t3 t4 he
    go_wp2_with fail
    exact ret_cell_tmp rfl rfl Ht.out rfl rfl Hr.out
  have Hw := Lib.hid hw
  obtain rfl := Hks.out hw
  clear hw Hks
  obtain ⟨c0, c1⟩ := (Hb1.out.below HA6.out (by omega)).cells.c2
  obtain ⟨d0, d1⟩ := (Hb2.out.below HA6.out (by omega)).cells.c2
  simp only [Nat.zero_add] at c1 d1
  by_cases hle : ac.length = bc.length
  case neg =>
    have g2 : ((ac.length : Int) != (bc.length : Int)) = true := by simp; omega
    have hbE := Hb3.out.below HA6.out hl3
    obtain ⟨e0, e1⟩ := hbE.cells.c2
    have f0 := hbE.free 0
    have f1 := hbE.free 1
    simp only [Nat.zero_add] at e1
    have he : orErr ac la bc lb = 2 := by unfold orErr; rw [decide_eq_false hle]; simp
    obtain ⟨t1, t2, t3, t4⟩ := relTail (pc := none) (pr := none) (qc := 0) (qr := 0) hbE (show w.heap.size ≤ w.heap.size + 1 + 1 by omega) (HB.out.trans (Below.mono HA6.out hz2)) (Own.nil _ _ _ _ _) (OwnR.nil _ _)
    have hr := HR.out _ _ _ [] t1 (by rw [he]; exact t2) (by rw [he]; exact t3)
    rw [he] at hr
    have Hr := Lib.hid hr
    have Ht := Lib.hid t4
    clear hle hbE hr t1 t2 t3 t4 he
    go_wp2_with fail
    exact ret_cell_tmp rfl rfl Ht.out rfl rfl Hr.out
  have Hle : Hid (ac.length = bc.length) := Lib.hid hle
  have g2 : ((ac.length : Int) != (bc.length : Int)) = false := by simp; omega
  have he : orErr ac la bc lb = madeErr ac (la ++ lb.map fun x => pickL x (placesL ac bc)) := by unfold orErr; rw [Hm.out, Hmb.out, Hw.out, decide_eq_true hle]; rfl
  rw [he] at HR
  clear he hle
  have hmla := (may_many Hm.out).1
  have hmlb := (may_many Hmb.out).1
  have hmca := (may_many Hm.out).2
  go_wp2_with fail
  refine gather_any lrb hrb lb _ 90 #[.pointer (some ⟨w3.heap.size, 0, none⟩)] (fun x => some (pickL x (placesL ac bc))) w6 (Sl.below Hlb2.out rowE_loc HA6.out (by omega)) (by omega) (by omega) (enters_of Try.func90 (by kernel_rfl) rfl) (fun k hk xv w' R' hB' hx' hR' => ?_) _ (fun w7 v7 hs7 hB7 h7 => ?_)
  · have hz' := hB'.size
    have hBw := HB46.out.trans (hB'.mono (by omega))
    refine Or1_any lrb hrb w2.heap.size w3.heap.size w3.heap.size lb[k] (placesL ac bc) xv _ w' hx' (by omega) (Sl.below (OwnI.sl Ho3.out) Ints.loc (HB34.out.trans (hBw.mono (by omega))) (Nat.le_refl _)) (by omega) (Hb4.out.below hBw hl4) (by rw [may_len Hmb.out _ (List.getElem_mem hk)]; exact places_ok Hw.out) (by unfold placesL; rw [List.length_map]; omega) R' (fun w'' yv hB'' ho'' => ?_)
    obtain ⟨a, c, e⟩ := Own.slice ho''
    exact hR' w'' yv hB'' (fun _ => ho'') ⟨a, _, c, e⟩
  rw [map_fm] at h7
  have HB67 := Lib.hid hB7
  have hz7 := hB7.size
  have HA7 := Lib.hid (HA6.out.trans (hB7.mono (by omega)))
  have H7 := Lib.hid h7
  obtain ⟨p7, q7, e7⟩ := Own.slice h7.own
  have Hb17 := Lib.hid (Hb1.out.below HA7.out (by omega))
  have Hb37 := Lib.hid (Hb3.out.below HA7.out hl3)
  have hl17 : w.heap.size < w7.heap.size := by omega
  have hl37 : w.heap.size + 1 + 1 < w7.heap.size := by omega
  have Hll7 : Hid (hs7.length = lb.length) := Lib.hid (by rw [h7.len, List.length_map])
  clear hB7 h7 c0 c1 d0 d1
  subst e7
  go_upto_region 5 with fail
  have hS0 : Only (fun z => z = w.heap.size + 1 + 1 ∨ w6.heap.size ≤ z) w7 w7.drew := Only.drew _
  refine wp_region_held_drew (S := fun w' => Only (fun z => z = w.heap.size + 1 + 1 ∨ w6.heap.size ≤ z) w7 w') (by kernel_rfl) hS0 (fun hHeld => ?_)
  refine wpAnyH_take (i := 0) (v := .pointer (some ⟨w.heap.size, 0, none⟩)) rfl (by kernel_rfl) (by kernel_rfl) (by kernel_rfl) (fun _ _ _ h => h) (Or.inl ⟨by rfl, ?_⟩) hHeld ?_
  · intro w' hSw; go_simp
  try simp only [Act.put, List.getElem_toArray, List.getElem_cons_succ, List.getElem_cons_zero, List.setIfInBounds_toArray, List.set_cons_zero, List.set_cons_succ]
  refine wpAnyH_take (i := 1) (v := .slice pa ac.length ca) rfl (by kernel_rfl) (by kernel_rfl) (by kernel_rfl) (fun _ _ _ h => h) (Or.inl ⟨by rfl, ?_⟩) hHeld ?_
  · intro w' hSw; obtain ⟨z0, z1⟩ := (hSw.blk Hb17.out (by omega)).cells.c2; simp only [Nat.zero_add] at z1; go_simp
  try simp only [Act.put, List.getElem_toArray, List.getElem_cons_succ, List.getElem_cons_zero, List.setIfInBounds_toArray, List.set_cons_zero, List.set_cons_succ]
  refine wpAnyH_take (i := 2) (v := .pointer (some ⟨w.heap.size, 1, none⟩)) rfl (by kernel_rfl) (by kernel_rfl) (by kernel_rfl) (fun _ _ _ h => h) (Or.inl ⟨by rfl, ?_⟩) hHeld ?_
  · intro w' hSw; go_simp
  try simp only [Act.put, List.getElem_toArray, List.getElem_cons_succ, List.getElem_cons_zero, List.setIfInBounds_toArray, List.set_cons_zero, List.set_cons_succ]
  refine wpAnyH_take (i := 3) (v := .slice av la.length av2) rfl (by kernel_rfl) (by kernel_rfl) (by kernel_rfl) (fun _ _ _ h => h) (Or.inl ⟨by rfl, ?_⟩) hHeld ?_
  · intro w' hSw; obtain ⟨z0, z1⟩ := (hSw.blk Hb17.out (by omega)).cells.c2; simp only [Nat.zero_add] at z1; go_simp
  try simp only [Act.put, List.getElem_toArray, List.getElem_cons_succ, List.getElem_cons_zero, List.setIfInBounds_toArray, List.set_cons_zero, List.set_cons_succ]
  refine wpAnyH_take (i := 5) (v := .slice p7 hs7.length q7) rfl (by kernel_rfl) (by kernel_rfl) (by kernel_rfl) (fun _ _ _ h => h) (Or.inl ⟨by rfl, ?_⟩) hHeld ?_
  · intro w' hSw; go_simp
  try simp only [Act.put, List.getElem_toArray, List.getElem_cons_succ, List.getElem_cons_zero, List.setIfInBounds_toArray, List.set_cons_zero, List.set_cons_succ]
  refine wpAnyH_ready (rs := [4]) (by kernel_rfl) (by simp) ?_
  refine allCall (f := 71) (args := #[.slice av la.length av2, .func (.func 72) #[] #[]]) rfl (by kernel_rfl) (by kernel_rfl) ?_ AllReadyH.nil
  have HAd : Hid (Below w2.heap.size w2 w7.drew) := Lib.hid HA7.out.drew
  refine gather_any lra hra la _ 72 #[] some w7.drew (Sl.below Hla2.out rowE_loc HAd.out (by omega)) (by show hra ≤ w7.heap.size; omega) (by omega) (enters_of Try.func72 (by kernel_rfl) rfl) (fun k hk xv w' R' hB' hx' hR' => ?_) _ (fun w8 v8 hs8 hB8 h8 => ?_)
  · have hz' : w7.heap.size ≤ w'.heap.size := hB'.size
    refine own_any lra hra la[k] xv w' hx' (by omega) (by rw [may_len Hm.out _ (List.getElem_mem hk)]; omega) R' (fun w'' yv hB'' ho'' => ?_)
    obtain ⟨a, c, e⟩ := Own.slice ho''
    exact hR' w'' yv hB'' (fun _ => ho'') ⟨a, _, c, e⟩
  rw [gather_own] at h8
  obtain ⟨p8, q8, e8⟩ := Own.slice h8.own
  have hB78 : Below w7.heap.size w7 w8 := ((Below.refl _ _).drew).trans hB8
  have HB78 := Lib.hid hB78
  have hz8 := hB78.size
  have H8 : Hid (OwnR w6.heap.size w8 v8 hs8 la) := Lib.hid (h8.lower (by show w6.heap.size ≤ w7.heap.size; omega))
  have H78 : Hid (OwnR w6.heap.size w8 (.slice p7 hs7.length q7) hs7 (lb.map fun x => pickL x (placesL ac bc))) := Lib.hid (H7.out.kept hB78)
  have Hll8 : Hid (hs8.length = la.length) := Lib.hid h8.len
  subst e8
  have hH2 : Only (fun z => z = w.heap.size + 1 + 1 ∨ w6.heap.size ≤ z) w7 w8 := Below.only hB78
  refine ⟨_, rfl, hH2, ?_⟩
  clear hHeld hB8 h8 hB78
  have hHeld := hH2
  clear hH2
  try simp only [Act.put, List.getElem_toArray, List.getElem_cons_succ, List.getElem_cons_zero, List.setIfInBounds_toArray, List.set_cons_zero, List.set_cons_succ]
  have hB9 := alloc_below w8 (.cells #[.slice p8 hs8.length q8, .slice p7 hs7.length q7] 32)
  have hc9 := CellsAt.new w8 [.slice p8 hs8.length q8, .slice p7 hs7.length q7] 32
  have hl9 : w8.heap.size < (w8.alloc (.cells #[.slice p8 hs8.length q8, .slice p7 hs7.length q7] 32)).heap.size := by simp
  refine wpAnyH_ready (rs := [6]) (by kernel_rfl) (by simp) ?_
  refine allVal (v := .slice (some ⟨w8.heap.size, 0, none⟩) 2 2) (w' := w8.alloc (.cells #[.slice p8 hs8.length q8, .slice p7 hs7.length q7] 32)) rfl (by kernel_rfl) (by go_simp) (hHeld.trans (Below.only hB9)) ?_ AllReadyH.nil
  have hH2 : Only (fun z => z = w.heap.size + 1 + 1 ∨ w6.heap.size ≤ z) w7 _ := hHeld.trans (Below.only hB9)
  change CellsAt (w8.alloc (.cells #[.slice p8 hs8.length q8, .slice p7 hs7.length q7] 32)) _ _ _ at hc9
  generalize w8.alloc (.cells #[.slice p8 hs8.length q8, .slice p7 hs7.length q7] 32) = w9 at *
  have HB9 := Lib.hid hB9
  have Hc9 := Lib.hid hc9
  have hz9 := hB9.size
  have H8' := Lib.hid (H8.out.kept hB9)
  have H7' := Lib.hid (H78.out.kept hB9)
  clear hHeld hB9 hc9 H8 H78
  have hHeld := hH2
  clear hH2
  try simp only [Act.put, List.getElem_toArray, List.getElem_cons_succ, List.getElem_cons_zero, List.setIfInBounds_toArray, List.set_cons_zero, List.set_cons_succ]
  refine wpAnyH_ready (rs := [7]) (by kernel_rfl) (by simp) ?_
  refine allCall (f := 91) (args := #[.slice (some ⟨w8.heap.size, 0, none⟩) 2 2]) rfl (by kernel_rfl) (by kernel_rfl) ?_ AllReadyH.nil
  refine ConcatHdr_any w6.heap.size w9.heap.size w6.heap.size w9.heap.size w8.heap.size (hs8.map toHD) (hs7.map toHD) _ _ w9 (OwnR.hdSl H8'.out) (Nat.le_refl _) (OwnR.hdSl H7'.out) (Nat.le_refl _) Hc9.out hl9 (by rw [List.length_map, Hll8.out]; omega) (by rw [List.length_map, Hll7.out]; omega) _ (fun w10 v10 hB10 ho10 => ?_)
  have hcat := OwnR.cat H8'.out H7'.out hB10 (by omega) ho10
  obtain ⟨p10, q10, e10⟩ := Own.slice ho10
  have HB10 := Lib.hid hB10
  have H10 := Lib.hid hcat
  have hz10 := hB10.size
  have HB7_10 := Lib.hid (HB78.out.trans ((HB9.out.trans (hB10.mono (by omega))).mono (by omega)))
  subst e10
  have hH2 : Only (fun z => z = w.heap.size + 1 + 1 ∨ w6.heap.size ≤ z) w7 w10 := Below.only HB7_10.out
  refine ⟨_, rfl, hH2, ?_⟩
  clear hHeld hB10 ho10 hcat
  have hHeld := hH2
  clear hH2
  try simp only [Act.put, List.getElem_toArray, List.getElem_cons_succ, List.getElem_cons_zero, List.setIfInBounds_toArray, List.set_cons_zero, List.set_cons_succ]
  refine wpAnyH_ready (rs := [8]) (by kernel_rfl) (by simp) ?_
  refine allCall (f := 70) (args := #[.slice pa ac.length ca, .slice p10 (hs8.map toHD ++ hs7.map toHD).length q10]) rfl (by kernel_rfl) (by kernel_rfl) ?_ AllReadyH.nil
  have HA10 := Lib.hid (HA7.out.trans (HB7_10.out.mono (by omega)))
  refine madeK_any w6.heap.size lca hca ac _ (la ++ lb.map fun x => pickL x (placesL ac bc)) _ _ w10 (Sl.below Ha2.out Strs.loc HA10.out (by omega)) (by omega) (by omega) H10.out (by rw [List.length_append, List.length_map]; omega) _ (fun w11 cv7 lv7 hs11 hB11 hz11 hT7 hO7 => ?_)
  generalize hE : madeErr ac (la ++ lb.map fun x => pickL x (placesL ac bc)) = err at *
  generalize okL err ac = oc at *
  generalize okL err (relCanon (la ++ lb.map fun x => pickL x (placesL ac bc))) = ol at *
  obtain ⟨p7', q7', rfl⟩ := Own.slice hT7
  obtain ⟨p8', q8', e8⟩ := Own.slice hO7.own
  rw [hO7.len] at e8
  subst e8
  have HA6' := HA6.out
  have hB6_11 : Below w6.heap.size w6 w11 := (HB67.out.trans (HB7_10.out.mono (by omega))).trans hB11
  have hO711 : Only (fun z => z = w.heap.size + 1 + 1 ∨ w6.heap.size ≤ z) w7 w11 → True := fun _ => trivial
  have hb7 := (Hb3.out.below HA6.out hl3).below hB6_11 (by omega)
  obtain ⟨e0, e1⟩ := hb7.cells.c2
  have f0 := hb7.free 0
  have f1 := hb7.free 1
  simp only [Nat.zero_add] at e1
  have hA11 := HA6.out.trans (hB6_11.mono (by omega))
  obtain ⟨t1, t2, t3, t4⟩ := relTail hb7 (show w.heap.size ≤ w.heap.size + 1 + 1 by omega) (HB.out.trans (hA11.mono hz2)) (Own.lower hT7 (by omega)) (hO7.lower (by omega))
  have hr := HR.out _ _ _ _ t1 t2 t3
  have Hr := Lib.hid hr
  have Ht := Lib.hid t4
  have Hbl := Lib.hid (hb7.lt)
  have hH2 : Only (fun z => z = w.heap.size + 1 + 1 ∨ w6.heap.size ≤ z) w7 w11 := (Below.only HB7_10.out).trans ((Below.onlyGe hB11).mono (fun _ _ h => .inr h))
  refine ⟨_, rfl, hH2, ?_⟩
  clear hHeld hr t1 t2 t3 t4 hb7 hB6_11 hT7 hO7 hB11 hA11 hO711 HA6'
  have hHeld := hH2
  clear hH2
  try simp only [Act.put, List.getElem_toArray, List.getElem_cons_succ, List.getElem_cons_zero, List.setIfInBounds_toArray, List.set_cons_zero, List.set_cons_succ]
  refine wpAnyH_take (i := 9) (v := .agg #[.slice p7' oc.length q7', .slice p8' ol.length q8']) rfl (by kernel_rfl) (by kernel_rfl) (by kernel_rfl) (fun _ _ _ h => h) (Or.inl ⟨by rfl, ?_⟩) hHeld ?_
  · intro w' hSw; go_simp
  try simp only [Act.put, List.getElem_toArray, List.getElem_cons_succ, List.getElem_cons_zero, List.setIfInBounds_toArray, List.set_cons_zero, List.set_cons_succ]
  refine wpAnyH_take (i := 10) (v := .int .i64 err) rfl (by kernel_rfl) (by kernel_rfl) (by kernel_rfl) (fun _ _ _ h => h) (Or.inl ⟨by rfl, ?_⟩) hHeld ?_
  · intro w' hSw; go_simp
  try simp only [Act.put, List.getElem_toArray, List.getElem_cons_succ, List.getElem_cons_zero, List.setIfInBounds_toArray, List.set_cons_zero, List.set_cons_succ]
  have hHeld2 := (hHeld.trans (Only.setCell (A := fun z => z = w.heap.size + 1 + 1 ∨ w6.heap.size ≤ z) w11 (p := ⟨w.heap.size + 1 + 1, 0, none⟩) (.inl rfl) (.slice p7' oc.length q7'))).trans (Only.setCell (A := fun z => z = w.heap.size + 1 + 1 ∨ w6.heap.size ≤ z) _ (p := ⟨w.heap.size + 1 + 1, 1, none⟩) (.inl rfl) (.slice p8' ol.length q8'))
  refine wpAnyH_ready (rs := [11]) (by kernel_rfl) (by simp) ?_
  refine allSkip (w' := (w11.setCell ⟨w.heap.size + 1 + 1, 0, none⟩ (.slice p7' oc.length q7')).setCell ⟨w.heap.size + 1 + 1, 1, none⟩ (.slice p8' ol.length q8')) rfl (by kernel_rfl) ?_ hHeld2 ?_ AllReadyH.nil
  · go_simp
  try simp only [Act.put, List.getElem_toArray, List.getElem_cons_succ, List.getElem_cons_zero, List.setIfInBounds_toArray, List.set_cons_zero, List.set_cons_succ]
  clear hHeld
  have hHeld := hHeld2
  clear hHeld2
  refine wpAnyH_take (i := 12) (v := .int .i64 err) rfl (by kernel_rfl) (by kernel_rfl) (by kernel_rfl) (fun _ _ _ h => h) (Or.inl ⟨by rfl, ?_⟩) hHeld ?_
  · intro w' hSw; go_simp
  try simp only [Act.put, List.getElem_toArray, List.getElem_cons_succ, List.getElem_cons_zero, List.setIfInBounds_toArray, List.set_cons_zero, List.set_cons_succ]
  refine wpAnyH_done (by kernel_rfl) ?_ _
  clear hHeld
  go_wp2_with fail
  exact ret_cell_tmp rfl rfl Ht.out rfl rfl Hr.out
end Go.Proofs.Ytpncblagjkbemaa
end

/- slices.BinarySearchFunc of rows; the program's Has. -/
section
set_option linter.unusedVariables false
set_option linter.unusedSimpArgs false
namespace Go.Proofs.Ytpncblagjkbemaa
open Go.RowKit
set_option linter.unusedVariables false
set_option linter.unusedSimpArgs false

theorem wrapU {x : Int} (h1 : 0 ≤ x) (h2 : x ≤ 18446744073709551615) : IntKind.u64.wrap x = x := by
  simp [IntKind.wrap, IntKind.bits, IntKind.signed]; omega
set_option maxRecDepth 100000 in
set_option maxHeartbeats 4000000 in
theorem BinarySearch_any (lo hi l2 h2 : Nat) (l : List (List V)) (lv : Value) (x : List V) (vx : Value) (w : World) (hv : Rws lo hi w lv l) (hhi : hi ≤ w.heap.size) (hx : Row1 l2 h2 w vx x) (hh2 : h2 ≤ w.heap.size) (hup : l.Pairwise fun a b => 0 ≤ cmpR b a) (hlen : l.length ≤ 4000000000000000000) (R : Ending → World → Prop)
    (hR : ∀ w' (i : Nat), Below w.heap.size w w' → i ≤ l.length → (∀ j (h : j < l.length), j < i → cmpR l[j] x < 0) → (∀ j (h : j < l.length), i ≤ j → 0 ≤ cmpR l[j] x) → R (.returned (.tuple #[.int .i64 i, .bool (decide (i < l.length) && (cmpR (l.getD i []) x == 0))])) w') :
    Calls Try.prog 82 #[lv, vx, .func (.func 24) #[] #[]] w R := by
  have HR := Lib.hid hR
  have Hv := Lib.hid hv
  have Hx := Lib.hid hx
  have Hup := Lib.hid hup
  obtain ⟨av, cv2, rfl, -, -, -, -⟩ := hv.form
  obtain ⟨ax, cx, rfl, -, -, -, -⟩ := hx.form
  clear hR hv hx hup
  have he := enters_of Try.func24 (by kernel_rfl) rfl
  go_enter Try.func82, Try.ntmps82
  go_wp2_with fail
  go_loopw [9, 10] (fun t9 t10 wr => ∃ (i j : Nat), i ≤ j ∧ j ≤ l.length ∧ t9 = .int .i64 i ∧ t10 = .int .i64 j ∧ (∀ k (h : k < l.length), k < i → cmpR l[k] x < 0) ∧ (∀ k (h : k < l.length), j ≤ k → 0 ≤ cmpR l[k] x) ∧ Below w.heap.size w wr) (fun t9 t10 _ => (intOf t10).toNat - (intOf t9).toNat)
  case atStart => exact ⟨0, l.length, Nat.zero_le _, Nat.le_refl _, rfl, rfl, fun k _ h => absurd h (Nat.not_lt_zero _), fun k h1 h2 => absurd h1 (by omega), Below.refl _ _⟩
  case round =>
    obtain ⟨i, j, hij, hj, rfl, rfl, hlo, hge, hB⟩ := hrel
    obtain ⟨wo, ewo⟩ : ∃ x, x = wr := ⟨_, rfl⟩
    subst ewo
    have Hlo := Lib.hid hlo
    have Hge := Lib.hid hge
    have HB := Lib.hid hB
    have hzo := hB.size
    have ii0 : (0 : Int) ≤ (i : Int) := by omega
    have jj0 : (0 : Int) ≤ (j : Int) := by omega
    clear hlo hge hB
    by_cases hlt : i < j
    · have iij : (i : Int) < (j : Int) := by omega
      obtain ⟨m, hm⟩ : ∃ m, m = (i + j) / 2 := ⟨_, rfl⟩
      have hmi : i ≤ m := by omega
      have hmj : m < j := by omega
      have w1 : IntKind.i64.wrap ((i : Int) + (j : Int)) = (i : Int) + (j : Int) := wrapOk (by omega) (by omega)
      have w2 : IntKind.u64.wrap ((i : Int) + (j : Int)) = (i : Int) + (j : Int) := wrapU (by omega) (by omega)
      have w3 : ((i : Int) + (j : Int)) / 2 = (m : Int) := by omega
      have mm0 : (0 : Int) ≤ (m : Int) := by omega
      have hml : m < l.length := by omega
      have mml : (m : Int) < (l.length : Int) := by omega
      obtain ⟨b4, o4, rfl, hb4, hrow4⟩ := Rws.at (Sl.below Hv.out rowE_loc HB.out hhi) (by omega) (by omega)
      obtain ⟨p2, c2, g2, r2⟩ := hrow4 m hml
      have g0 := g2 wo (Below.refl _ _)
      have R2 := Lib.hid r2
      have Hlt : Hid (cmpR l[m] x < 0 → ∀ k (h : k < l.length), k < m + 1 → cmpR l[k] x < 0) := Lib.hid (fun hc k hk hkm => by
        by_cases e : k = m
        · subst e; exact hc
        · have h1 := List.pairwise_iff_getElem.1 Hup.out k m hk hml (by omega)
          by_cases h3 : cmpR l[k] l[m] < 0
          · exact cmpR_cmp.trans _ _ _ h3 hc
          · have h4 : cmpR l[k] l[m] = 0 := by
              have := cmpR_cmp.anti l[k] l[m]
              omega
            rw [(cmpR_cmp.zero _ _).1 h4]; exact hc)
      have Hgt : Hid (0 ≤ cmpR l[m] x → ∀ k (h : k < l.length), m ≤ k → 0 ≤ cmpR l[k] x) := Lib.hid (fun hc k hk hkm => by
        by_cases hck : cmpR l[k] x < 0
        · exfalso
          by_cases e : k = m
          · subst e; omega
          · have h1 := List.pairwise_iff_getElem.1 Hup.out m k hml hk (by omega)
            by_cases h3 : cmpR l[m] l[k] < 0
            · have := cmpR_cmp.trans _ _ _ h3 hck; omega
            · have h4 : cmpR l[m] l[k] = 0 := by
                have := cmpR_cmp.anti l[m] l[k]
                omega
              rw [(cmpR_cmp.zero _ _).1 h4] at hc; omega
        · omega)
      clear hrow4 g2 r2 hm
      generalize l[m] = xb at *
      go_wp2_with fail
      refine rowsCompareB_any lo hi l2 h2 xb x _ _ wo R2.out (Sl.below Hx.out Row1.loc HB.out hh2) (by omega) (by omega) _ (fun wq hBq => ?_)
      have HBq := Lib.hid (HB.out.trans (hBq.mono (by omega)))
      clear hBq
      by_cases h0 : cmpR xb x < 0
      · have Hnx := Lib.hid (Hlt.out h0)
        have c0 : cmpR xb x < 0 := h0
        clear Hlt Hgt h0
        generalize cmpR xb x = cv at *
        go_wp2_with fail
        go_roundw
        case rel => exact ⟨m + 1, j, by omega, by omega, by go_num, by go_num, Hnx.out, Hge.out, HBq.out⟩
        case measure => simp [intOf]; omega
      · have Hnx := Lib.hid (Hgt.out (by omega))
        have c0 : ¬ cmpR xb x < 0 := h0
        clear Hlt Hgt h0
        generalize cmpR xb x = cv at *
        go_wp2_with fail
        go_roundw
        case rel => exact ⟨i, m, by omega, by omega, by go_num, by go_num, Hlo.out, Hnx.out, HBq.out⟩
        case measure => simp [intOf]; omega
    · obtain rfl : i = j := by omega
      have llt : ¬ ((i : Nat) : Int) < (i : Int) := by omega
      by_cases hil : i < l.length
      · have iil : (i : Int) < (l.length : Int) := by omega
        obtain ⟨b4, o4, rfl, hb4, hrow4⟩ := Rws.at (Sl.below Hv.out rowE_loc HB.out hhi) (by omega) (by omega)
        obtain ⟨p2, c2, g2, r2⟩ := hrow4 i hil
        have g0 := g2 wo (Below.refl _ _)
        have R2 := Lib.hid r2
        have HR2 := Lib.hid (fun w' hB => HR.out w' i hB hj Hlo.out Hge.out)
        rw [show l.getD i [] = l[i] from getDS l _ i hil, decide_eq_true hil, Bool.true_and] at HR2
        clear hrow4 g2 r2 HR
        generalize l[i] = xb at *
        go_wp2_with fail
        refine rowsCompareB_any lo hi l2 h2 xb x _ _ wo R2.out (Sl.below Hx.out Row1.loc HB.out hh2) (by omega) (by omega) _ (fun wq hBq => ?_)
        have hr := HR2.out wq (HB.out.trans (hBq.mono (by omega)))
        clear hBq
        generalize cmpR xb x = cv at *
        go_wp2_with fail
        first | exact hr | exact fin hr rfl
      · have iil : ¬ (i : Int) < (l.length : Int) := by omega
        have hr := HR.out wo i HB.out hj Hlo.out Hge.out
        rw [decide_eq_false hil, Bool.false_and] at hr
        go_wp2_with fail
        first | exact hr | exact fin hr rfl
def hasB (cols : List S) (l : List (List V)) (x : List V) : Bool := mayRel cols l && l.any (fun y => cmpR y x == 0)
theorem may_up {cols : List S} {l : List (List V)} (h : mayRel cols l = true) : l.Pairwise fun a b => cmpR a b < 0 := by
  have step : ∀ i, i + 1 < l.length → cmpR (l.getD i []) (l.getD (i + 1) []) < 0 := by
    intro i hi
    unfold mayRel at h
    rw [Bool.and_eq_true, List.all_eq_true] at h
    have := h.2 (i + 1) (List.mem_range.2 hi)
    unfold mayAt at this
    rw [Bool.and_eq_true] at this
    simpa using this.2
  have key : ∀ d i, i + (d + 1) < l.length → cmpR (l.getD i []) (l.getD (i + (d + 1)) []) < 0 := by
    intro d
    induction d with
    | zero => intro i hi; exact step i hi
    | succ d ih => intro i hi; exact cmpR_cmp.trans _ _ _ (ih i (by omega)) (step (i + (d + 1)) (by omega))
  rw [List.pairwise_iff_getElem]
  intro i j hi hj hij
  have := key (j - i - 1) i (by omega)
  rw [show i + (j - i - 1 + 1) = j by omega, getDS l _ i hi, getDS l _ j hj] at this
  exact this
theorem may_weak {cols : List S} {l : List (List V)} (h : mayRel cols l = true) : l.Pairwise fun a b => 0 ≤ cmpR b a :=
  (may_up h).imp (fun {a b} hab => by have := cmpR_cmp.anti a b; omega)
/-- The lower bound meets the row, if it is there. -/
theorem bound_has {l : List (List V)} {x : List V} {i : Nat} (hup : l.Pairwise fun a b => cmpR a b < 0) (hi : i ≤ l.length) (hlo : ∀ j (h : j < l.length), j < i → cmpR l[j] x < 0) (hge : ∀ j (h : j < l.length), i ≤ j → 0 ≤ cmpR l[j] x) :
    (decide (i < l.length) && (cmpR (l.getD i []) x == 0)) = l.any (fun y => cmpR y x == 0) := by
  rw [Bool.eq_iff_iff, Bool.and_eq_true, List.any_eq_true]
  constructor
  · rintro ⟨h1, h2⟩
    have h1 := of_decide_eq_true h1
    exact ⟨l[i], List.getElem_mem h1, by rw [← getDS l [] i h1]; exact h2⟩
  · rintro ⟨y, hy, h0⟩
    obtain ⟨j, hj, rfl⟩ := List.getElem_of_mem hy
    have h0 : cmpR l[j] x = 0 := by simpa using h0
    have hij : i ≤ j := by
      rcases Nat.lt_or_ge j i with h | h
      · have := hlo j hj h; omega
      · exact h
    have hil : i < l.length := by omega
    refine ⟨decide_eq_true hil, ?_⟩
    by_cases e : i = j
    · subst e; rw [getDS l _ i hil]; simpa using h0
    · have h1 := List.pairwise_iff_getElem.1 hup i j hil hj (by omega)
      rw [(cmpR_cmp.zero _ _).1 h0] at h1
      have := hge i hil (Nat.le_refl _); omega
set_option maxRecDepth 100000 in
set_option maxHeartbeats 4000000 in
theorem Has_any (lo hi lc hc l2 h2 : Nat) (rc : List S) (ac : Option Addr) (cc : Nat) (l : List (List V)) (lv : Value) (x : List V) (vx : Value) (w : World) (hrc : Strs lc hc w (.slice ac rc.length cc) rc) (hhc : hc ≤ w.heap.size) (hv : Rws lo hi w lv l) (hhi : hi ≤ w.heap.size) (hx : Row1 l2 h2 w vx x) (hh2 : h2 ≤ w.heap.size) (R : Ending → World → Prop)
    (hR : ∀ w', Below w.heap.size w w' → R (.returned (.bool (hasB rc l x))) w') : Calls Try.prog 39 #[.agg #[.slice ac rc.length cc, lv], vx] w R := by
  have HR := Lib.hid hR
  have Hv := Lib.hid hv
  have Hrc := Lib.hid hrc
  have Hx := Lib.hid hx
  obtain ⟨av, cv2, rfl, -, -, -, -⟩ := hv.form
  obtain ⟨ax, cx, rfl, -, -, -, -⟩ := hx.form
  clear hR hv hrc hx
  go_enter Try.func39, Try.ntmps39
  go_upto_region 1 with fail
  have hBa := alloc_below w (.cells #[.slice ac rc.length cc, .slice av l.length cv2] 34)
  have hba := Blk.new w [.slice ac rc.length cc, .slice av l.length cv2] 34 rfl
  generalize w.alloc (.cells #[.slice ac rc.length cc, .slice av l.length cv2] 34) = w2 at *
  have HB := Lib.hid hBa
  have Hb1 := Lib.hid hba
  have hz2 := hBa.size
  have hl1 := hba.lt
  obtain ⟨c0, c1⟩ := hba.cells.c2
  simp only [Nat.zero_add] at c1
  clear hBa hba
  go_wp2_with fail
  refine May_any lo hi lc hc rc _ _ l _ w2 (Sl.below Hrc.out Strs.loc HB.out hhc) (by omega) (Sl.below Hv.out rowE_loc HB.out hhi) (by omega) _ (fun w5 hB5 => ?_)
  have hz5 := hB5.size
  have HB5 := Lib.hid (HB.out.trans (hB5.mono (by omega)))
  obtain ⟨c0, c1⟩ := (Hb1.out.below hB5 hl1).cells.c2
  simp only [Nat.zero_add] at c1
  clear hB5
  cases hm : mayRel rc l
  · have hr := HR.out w5 HB5.out
    rw [show hasB rc l x = false by unfold hasB; rw [hm]; rfl] at hr
    clear hm
    go_wp2_with fail
    first | exact hr | exact fin hr rfl
  have he : hasB rc l x = l.any (fun y => cmpR y x == 0) := by unfold hasB; rw [hm]; rfl
  rw [he] at HR
  have Hup := Lib.hid (may_up hm)
  have Hwk := Lib.hid (may_weak hm)
  have hml := (may_many hm).1
  clear he hm
  go_wp2_with fail
  refine BinarySearch_any lo hi l2 h2 l _ x _ w5 (Sl.below Hv.out rowE_loc HB5.out hhi) (by omega) (Sl.below Hx.out Row1.loc HB5.out hh2) (by omega) Hwk.out (by omega) _ (fun w6 i hB6 hil h1 h2 => ?_)
  rw [bound_has Hup.out hil h1 h2]
  have hr := HR.out w6 (HB5.out.trans (hB6.mono (by omega)))
  clear hB6 h1 h2
  generalize l.any (fun y => cmpR y x == 0) = bb at *
  go_wp2_with fail
  first | exact hr | exact fin hr rfl
end Go.Proofs.Ytpncblagjkbemaa
end

/- A range over a function: the statement, and a round of it, in the plain walk. -/
section
set_option linter.unusedVariables false
set_option linter.unusedSimpArgs false
namespace Go.Proofs.Ytpncblagjkbemaa
open Go.RowKit

section
variable {P : Program}
/-- A loop's record. -/
def recL (fn : FuncId) (tmps : Array Value) (ps : Array Tmp) (assign body : Code) (D : Nat) (st : LoopState) (pe : Option Code) : Loop := { state := st, pending := pe, fn, tmps, params := ps, assign, body, defers := D }
def markD (D : Nat) : Deferred := { target := .collected D, args := #[] }
theorem wp_rangeFunc {g : Operand} {ps : Array Tmp} {assign body : Code} {Q : Exit → Act → World → Prop} {a : Act} {w : World} {gf : Nat} {lb : Array Value} (n : Nat)
    (hg : a.eval g = .func (.func gf) #[] lb) (eg : ∀ args w, (callFunc gf args).run P w = .ok (.enter gf args) w)
    (h : ∀ fn, CallsIn Fence.wide n P gf (#[.func (.yield (w.heap.size + 1)) #[] #[]] ++ lb)
      ((w.alloc (.deferred (some []))).alloc (.loop (recL fn a.tmps ps assign body w.heap.size .ready none)))
      (fun e W2 => (∃ v, e = .returned v) ∧ ∃ st pe, st ≠ .busy ∧ W2.heap[w.heap.size + 1]? = some (.loop (recL fn a.tmps ps assign body w.heap.size st pe)) ∧
        (match pe with
         | none => Q .normal { a with defers := markD w.heap.size :: a.defers } (W2.putObj (w.heap.size + 1) (.loop (recL fn a.tmps ps assign body w.heap.size .exhausted none)))
         | some c => c.wp P Q { a with defers := markD w.heap.size :: a.defers } (W2.putObj (w.heap.size + 1) (.loop (recL fn a.tmps ps assign body w.heap.size .exhausted (some c))))))) :
    (Code.rangeFunc g ps assign body).wp P Q a w := by
  refine (wpIn_wide (n := n + 1)).1 (wpIn_rangeFunc ?_)
  intro fn hfn
  refine ⟨w.heap.size + 1, [markD w.heap.size], ((w.alloc (.deferred (some []))).alloc (.loop (recL fn a.tmps ps assign body w.heap.size .ready none))), { target := .fn (.func gf) lb, args := #[.func (.yield (w.heap.size + 1)) #[] #[]] }, ((w.alloc (.deferred (some []))).alloc (.loop (recL fn a.tmps ps assign body w.heap.size .ready none))), gf,
    #[.func (.yield (w.heap.size + 1)) #[] #[]] ++ lb, ((w.alloc (.deferred (some []))).alloc (.loop (recL fn a.tmps ps assign body w.heap.size .ready none))), run_enterLoop_outer fn a.tmps ps assign body, ?_, ?_, ?_, fun _ => by omega, ?_⟩
  · simp only [resolve, hg]
    simp [go_sem]
  · intro f' hf'
    trivial
  · simp [invoke, go_sem, eg]
  · refine (h fn).mono ?_
    rintro e W2 ⟨⟨v, rfl⟩, st, pe, hst, hl, hq⟩
    refine ⟨pe, _, run_endLoop hl hst, ?_⟩
    cases pe with
    | none => exact hq
    | some c => exact wpIn_wide.2 hq

/-- One round. -/
theorem yieldAt_rec {l : Nat} {fn : FuncId} {tmps : Array Value} {ps : Array Tmp} {assign body : Code} {D : Nat} {W : World} {xs : Array Value} {R : Ending → World → Prop} {n : Nat}
    (hl : W.heap[l]? = some (.loop (recL fn tmps ps assign body D .ready none))) (hs : xs.size = ps.size)
    (h : assign.wpIn (Fence.wide.inRound l) n P (Exit.then (fun a₁ w₁ => w₁.heap[l]? = some (.loop (recL fn tmps ps assign body D .ready none)) ∧
      body.wpIn (Fence.wide.inRound l) n P (roundPost P l R) a₁ (w₁.putObj l (.loop (recL fn tmps ps assign body D .busy none)))) (fun _ _ _ => False))
      { tmps := (ps.zip xs).foldl (fun t (p, v) => t.setIfInBounds p v) tmps, defers := [] } W) :
    YieldAt Fence.wide n P l xs W R := by
  have hy := run_yield (P := P) (args := xs) hl hs
  refine ⟨fn, _, assign, body, hy, roundIn_of_wpIn trivial (wpIn_mono h ?_)⟩
  rintro e a1 w1 hq
  cases e with
  | normal =>
    obtain ⟨hl1, hb⟩ := hq
    exact ⟨_, run_beginRound hl1 rfl, hb⟩
  | exit id => exact hq.elim
  | goto t => exact hq.elim
  | ret => exact hq.elim
  | panic c => exact hq.elim
  | outgrown => exact hq.elim
/-- The end of a round that goes on. -/
theorem roundPost_normal {l : Nat} {fn : FuncId} {tmps : Array Value} {ps : Array Tmp} {assign body : Code} {D : Nat} {W : World} {R : Ending → World → Prop} {a : Act}
    (hl : W.heap[l]? = some (.loop (recL fn tmps ps assign body D .busy none)))
    (h : R (.returned (.bool true)) (W.putObj l (.loop (recL fn tmps ps assign body D .ready none)))) : roundPost P l R .normal a W :=
  ⟨_, _, run_endRound none hl, h⟩
/-- The end of a round that leaves the function. -/
theorem roundPost_ret {l : Nat} {fn : FuncId} {tmps : Array Value} {ps : Array Tmp} {assign body : Code} {D : Nat} {W : World} {R : Ending → World → Prop} {a : Act}
    (hl : W.heap[l]? = some (.loop (recL fn tmps ps assign body D .busy none)))
    (h : R (.returned (.bool false)) (W.putObj l (.loop (recL fn tmps ps assign body D .done (some .ret))))) : roundPost P l R .ret a W :=
  ⟨_, _, run_endRound (some .ret) hl, h⟩
end
end Go.Proofs.Ytpncblagjkbemaa
end

/- Rounds of a range over a function, for other texts; a region of a round that draws its order. -/
section
set_option linter.unusedVariables false
set_option linter.unusedSimpArgs false
namespace Go.Proofs.Ytpncblagjkbemaa
open Go.RowKit Go.Shelf
attribute [local go_sem] Oper.semAt_some

/-- An append, in a fenced walk. -/
theorem AtApp.goIn {P : Program} {F : Fence} {n : Nat} {w : World} {ops : Array Oper} {rest : List Oper} {o : Oper} {a : Act} {Q : Exit → Act → World → Prop} {s x : Operand} {t tx : TypeId} {v' : Value} {w' : World} {sv xv : Value}
    (hrun : (Builtin.append_ #[t, tx] o.type #[sv, xv]).run P w = .ok v' w') (hgd : o.guard = none) (ho : o.op = .call { callee := .builtin .append, args := #[s, x], argTypes := #[t, tx] }) (hs : a.eval s = sv) (hx : a.eval x = xv)
    (hK : wpListIn F n P ops Q rest (a.put o.dst v') w') : AtApp (wpListIn F n P ops Q (o :: rest) a w) := by
  refine wpListIn_plain hgd fun K hK' => ?_
  unfold Oper.wpIn
  refine ⟨by simp [Oper.about, ho, resolve, Target.leads, Sem.run_pure], ?_⟩
  rw [Oper.semAt_plain F _ _ (by rw [ho]; intro c hc'; cases hc')]
  simp [execOp, ho, resolve, invoke, builtin, hs, hx, hrun, Result.andThen]
  exact hK' _ _ hK
/-- Block l holds o. -/
def HeapAt (w : World) (l : Nat) (o : Obj) : Prop := w.heap[l]? = some o
/-- The statement, its record under a name. -/
theorem wp_rangeFuncR {P : Program} {g : Operand} {ps : Array Tmp} {assign body : Code} {Q : Exit → Act → World → Prop} {a : Act} {w : World} {gf : Nat} {lb : Array Value} (n : Nat)
    (hg : a.eval g = .func (.func gf) #[] lb) (eg : ∀ args w, (callFunc gf args).run P w = .ok (.enter gf args) w)
    (h : ∀ fn (RL : LoopState → Option Code → Loop), RL = recL fn a.tmps ps assign body w.heap.size → CallsIn Fence.wide n P gf (#[.func (.yield (w.heap.size + 1)) #[] #[]] ++ lb)
      ((w.alloc (.deferred (some []))).alloc (.loop (RL .ready none)))
      (fun e W2 => (∃ v, e = .returned v) ∧ ∃ st pe, st ≠ .busy ∧ W2.heap[w.heap.size + 1]? = some (.loop (RL st pe)) ∧
        (match pe with
         | none => Q .normal { a with defers := markD w.heap.size :: a.defers } (W2.putObj (w.heap.size + 1) (.loop (RL .exhausted none)))
         | some c => c.wp P Q { a with defers := markD w.heap.size :: a.defers } (W2.putObj (w.heap.size + 1) (.loop (RL .exhausted (some c))))))) :
    (Code.rangeFunc g ps assign body).wp P Q a w := wp_rangeFunc n hg eg (fun fn => h fn _ rfl)
theorem yieldAt_recR {P : Program} {RL : LoopState → Option Code → Loop} {l : Nat} {fn : FuncId} {tmps : Array Value} {ps : Array Tmp} {assign body : Code} {D : Nat} {W : World} {xs : Array Value} {R : Ending → World → Prop} {n : Nat}
    (hRL : RL = recL fn tmps ps assign body D) (hl : W.heap[l]? = some (.loop (RL .ready none))) (hs : xs.size = ps.size)
    (h : assign.wpIn (Fence.wide.inRound l) n P (Exit.then (fun a₁ w₁ => HeapAt w₁ l (.loop (RL .ready none)) ∧
      body.wpIn (Fence.wide.inRound l) n P (roundPost P l R) a₁ (w₁.putObj l (.loop (RL .busy none)))) (fun _ _ _ => False))
      { tmps := (ps.zip xs).foldl (fun t (p, v) => t.setIfInBounds p v) tmps, defers := [] } W) :
    YieldAt Fence.wide n P l xs W R := by subst hRL; exact yieldAt_rec hl hs (wpIn_mono h (fun e a w h => by cases e <;> first | exact ⟨h.1, h.2⟩ | exact h))
theorem roundPost_normalR {P : Program} {RL : LoopState → Option Code → Loop} {l : Nat} {fn : FuncId} {tmps : Array Value} {ps : Array Tmp} {assign body : Code} {D : Nat} {W : World} {R : Ending → World → Prop} {a : Act}
    (hRL : RL = recL fn tmps ps assign body D) (hl : W.heap[l]? = some (.loop (RL .busy none)))
    (h : R (.returned (.bool true)) (W.putObj l (.loop (RL .ready none)))) : roundPost P l R .normal a W := by subst hRL; exact roundPost_normal hl h

section
variable {P : Program} {ops : Array Oper} {Q : Exit → Act → World → Prop} {S : World → Prop} {l n : Nat}
def noDefer (o : Oper) : Bool := match o.op with | .defer _ => false | _ => true
theorem wpIn_of_wp_op {o : Oper} {a : Act} {w : World} {K : Act → World → Prop} (hd : noDefer o = true) (h : o.wp P a w K Q) : o.wpIn (Fence.wide.inRound l) n P a w K Q := by
  have hd' : ∀ c, o.op ≠ .defer c := fun c e => by simp [noDefer, e] at hd
  refine ⟨fun f _ => trivial, ?_⟩
  rw [Oper.semAt_eq _ _ _ hd']
  unfold Oper.wp at h
  generalize (execOp a.eval o).run P w = r at *
  cases r with
  | ok x w' =>
    cases x with
    | value v => exact h
    | skip => exact h
    | defer d => exact h
    | enter f args => exact ⟨fun h => (by cases h), callsIn_wide.2 h⟩
    | row row args =>
      refine ⟨fun h => (by cases h), fun c cs _ => ?_⟩
      obtain ⟨v, w'', h1, h2⟩ := h c cs
      exact ⟨v, w'', h1, stepsIn_wide.2 h2⟩
    | _ => exact h.elim
  | halt x w' =>
    cases x <;> first | exact h | exact h.elim
theorem wpOpsIn_of_wpOps (hd : ops.all noDefer = true) (hQ : ¬ LetsOut Q) : ∀ (L : List Nat) (a : Act) (w : World), wpOps P ops Q L a w → wpOpsIn (Fence.wide.inRound l) n P ops Q L a w := by
  intro L
  induction L with
  | nil => exact fun _ _ h => h
  | cons i rest ih =>
    intro a w h
    unfold wpOps at h
    unfold wpOpsIn
    cases ho : ops[i]? with
    | none => rw [ho] at h; exact ih _ _ h
    | some o =>
      rw [ho] at h
      have hdo : noDefer o = true := by
        obtain ⟨hi, e⟩ := Array.getElem?_eq_some_iff.1 ho
        rw [← e]
        exact (Array.all_eq_true.1 hd) i hi
      simp only at h ⊢
      by_cases hw : Region.wanted o (yielded ops a.tmps) = true
      · rw [if_pos hw] at h ⊢
        rcases h with h | ⟨-, h⟩
        · exact wpIn_of_wp_op hdo (Oper.wp_mono (fun a w => ih a w) h)
        · exact absurd h hQ
      · rw [if_neg hw] at h ⊢
        exact ⟨fun f _ => trivial, ih _ _ h⟩
/-- A region of a round that draws its order: under S, as one outside of rounds. -/
theorem wpIn_region_held {id : Nat} {a : Act} {w : World} (hd : ops.all noDefer = true) (hQ : ¬ LetsOut Q) (hm : P.follows .mixedOrders = true) (hS : S w.drew)
    (h : S w.drew → wpAnyH P .any ops Q S ops.size (Array.replicate ops.size false) a w.drew) : (Code.region id ops true).wpIn (Fence.wide.inRound l) n P Q a w :=
  wpIn_region_draw fun t => by
    simp only [Region.schedule, hm, Bool.true_or, if_true]
    exact wpOpsIn_of_wpOps hd hQ _ _ _ (wpAny_sound ops.size t _ a _ (wpAny_of_held _ _ _ _ (h hS)))
end
end Go.Proofs.Ytpncblagjkbemaa
end

/- The iterator agree: those of sorted rows that begin with some values. (Printed by med.py.) -/
section
set_option linter.unusedVariables false
set_option linter.unusedSimpArgs false
namespace Go.Proofs.Ytpncblagjkbemaa
open Go.RowKit Go.Shelf
set_option linter.unusedVariables false
set_option linter.unusedSimpArgs false
attribute [local go_sem] Oper.semAt_some

/-! ### a region of an iterator that draws its order -/
section
variable {P : Program} {ops : Array Oper} {Q : Exit → Act → World → Prop} {n : Nat}
theorem opValIn {o : Oper} {a : Act} {w : World} {K : Act → World → Prop} {v : Value} {w' : World} (h : (execOp a.eval o).run P w = .ok (.value v) w') (hK : K (a.put o.dst v) w') : Oper.wpIn Fence.wide n P o a w K Q := by
  refine ⟨fun _ _ => trivial, ?_⟩
  show Oper.uponIn _ _ _ _ _ _ _ ((Oper.semAt none a.eval o).run P w)
  rw [Oper.semAt_none, h]
  exact hK
theorem opCallIn {o : Oper} {a : Act} {w : World} {K : Act → World → Prop} {f : FuncId} {args : Array Value} (h : (execOp a.eval o).run P w = .ok (.enter f args) w) (hc : Calls P f args w (fun e w' => ∃ v, e = .returned v ∧ K (a.put o.dst v) w')) : Oper.wpIn Fence.wide n P o a w K Q := by
  refine ⟨fun _ _ => trivial, ?_⟩
  show Oper.uponIn _ _ _ _ _ _ _ ((Oper.semAt none a.eval o).run P w)
  rw [Oper.semAt_none, h]
  refine ⟨fun h => (by cases h), callsIn_wide.2 (hc.mono ?_)⟩
  rintro e w' ⟨v, rfl, hk⟩
  exact hk
theorem opYieldIn {o : Oper} {a : Act} {w : World} {K : Act → World → Prop} {l : Nat} {fn : FuncId} {tmps : Array Value} {assign body : Code} {R : Ending → World → Prop} {m : Nat} (hn : n - 1 = m) (h : (execOp a.eval o).run P w = .ok (.round l fn tmps assign body) w) (hr : RoundIn Fence.wide m P l fn tmps assign body w R)
    (hK : ∀ e w', R e w' → ∃ v, e = .returned v ∧ K (a.put o.dst v) w') : Oper.wpIn Fence.wide n P o a w K Q := by
  subst hn
  refine ⟨fun _ _ => trivial, ?_⟩
  show Oper.uponIn _ _ _ _ _ _ _ ((Oper.semAt none a.eval o).run P w)
  rw [Oper.semAt_none, h]
  refine ⟨fun h => (by cases h), hr.mono ?_⟩
  intro e w' he
  obtain ⟨v, rfl, hk⟩ := hK e w' he
  exact hk
theorem allIn {md : Region.Mode} {fuel : Nat} {listed : Array Bool} {a : Act} {w : World} {i : Nat} {o : Oper} {rs : List Nat} (ho : ops[i]? = some o) (hw : Region.wanted o (yielded ops a.tmps) = true)
    (h : ∀ K' : Act → World → Prop, (∀ a w, wpAnyIn Fence.wide n P md ops Q fuel (listed.setIfInBounds i true) a w → K' a w) → Oper.wpIn Fence.wide n P o a w K' Q) (hs : AllReadyIn Fence.wide n P md ops Q fuel listed a w rs) : AllReadyIn Fence.wide n P md ops Q fuel listed a w (i :: rs) :=
  AllReadyIn.cons ho (fun K hK => by rw [if_pos hw]; exact h K hK) hs
theorem allInNo {md : Region.Mode} {fuel : Nat} {listed : Array Bool} {a : Act} {w : World} {i : Nat} {o : Oper} {rs : List Nat} (ho : ops[i]? = some o) (hw : Region.wanted o (yielded ops a.tmps) = false)
    (h : wpAnyIn Fence.wide n P md ops Q fuel (listed.setIfInBounds i true) (a.put o.dst undef) w) (hs : AllReadyIn Fence.wide n P md ops Q fuel listed a w rs) : AllReadyIn Fence.wide n P md ops Q fuel listed a w (i :: rs) :=
  AllReadyIn.cons ho (fun K hK => by rw [hw]; exact ⟨fun _ _ => trivial, hK _ _ h⟩) hs
end

/-- Those of rows that begin with some values. -/
def agreeL (l : List (List V)) (x : List V) : List (List V) := l.filter fun y => cmpR (y.take x.length) x == 0
def agreeB (x y : List V) : Bool := cmpR (y.take x.length) x == 0
/-- A row that begins with x is not ahead of x; and one ahead of which x does not stand begins with no other. -/
theorem agree_ge : ∀ (x y : List V), agreeB x y = true → x.length ≤ y.length → 0 ≤ cmpR y x
  | [], y, _, _ => by cases y <;> simp [cmpR]
  | a :: x, [], _, h => by simp at h
  | a :: x, b :: y, h, hl => by
    have h1 : cmpR (b :: (y.take x.length)) (a :: x) = 0 := by simpa [agreeB] using h
    have h2 := (cmpR_cmp.zero _ _).1 h1
    injection h2 with e1 e2
    subst e1
    rw [cmpR, if_pos ((cmpV_cmp.zero _ _).2 rfl)]
    exact agree_ge x y (by simp [agreeB, e2, (cmpR_cmp.zero _ _).2]) (by simpa using hl)
/-- Between two rows that begin with x all begin with x. -/
theorem agree_mid : ∀ (x y z : List V), x.length ≤ y.length → x.length ≤ z.length → 0 ≤ cmpR y x → agreeB x y = false → 0 ≤ cmpR z y → agreeB x z = false
  | [], y, z, _, _, _, h, _ => by simp [agreeB, cmpR] at h
  | a :: x, [], _, h, _, _, _, _ => by simp at h
  | a :: x, _ :: _, [], _, h, _, _, _ => by simp at h
  | a :: x, b :: y, c :: z, h1, h2, h3, h4, h5 => by
    have key : ∀ u v : V, ¬ cmpV u v < 0 → cmpV v u ≤ 0 := fun u v h => by have := cmpV_cmp.anti u v; omega
    rw [cmpR] at h3 h5
    by_cases hba : cmpV b a = 0
    · have eba := (cmpV_cmp.zero _ _).1 hba
      subst eba
      rw [if_pos hba] at h3
      have h4' : agreeB x y = false := by
        cases hq : agreeB x y
        · rfl
        · have h0 : cmpR (y.take x.length) x = 0 := by simpa [agreeB] using hq
          have : agreeB (b :: x) (b :: y) = true := by simp [agreeB, cmpR, hba, h0]
          rw [this] at h4; cases h4
      by_cases hcb : cmpV c b = 0
      · have ecb := (cmpV_cmp.zero _ _).1 hcb
        subst ecb
        rw [if_pos hcb] at h5
        have := agree_mid x y z (by simpa using h1) (by simpa using h2) h3 h4' h5
        cases hq : agreeB (c :: x) (c :: z)
        · rfl
        · have h0 : cmpR (c :: (z.take x.length)) (c :: x) = 0 := by simpa [agreeB] using hq
          rw [cmpR, if_pos hcb] at h0
          have h6 : agreeB x z = true := by simp [agreeB, h0]
          rw [h6] at this; exact this
      · cases hq : agreeB (b :: x) (c :: z)
        · rfl
        · have h0 : cmpR (c :: (z.take x.length)) (b :: x) = 0 := by simpa [agreeB] using hq
          rw [cmpR, if_neg hcb] at h0
          exact absurd h0 hcb
    · rw [if_neg hba] at h3
      have hca : cmpV c a ≠ 0 := by
        intro e
        have eca := (cmpV_cmp.zero _ _).1 e
        subst eca
        by_cases hcb : cmpV c b = 0
        · rw [(cmpV_cmp.zero _ _).1 hcb] at hba; exact hba ((cmpV_cmp.zero _ _).2 rfl)
        · rw [if_neg hcb] at h5
          have h6 := cmpV_cmp.anti b c
          have h7 := cmpV_cmp.three b c
          omega
      cases hq : agreeB (a :: x) (c :: z)
      · rfl
      · have h0 : cmpR (c :: (z.take x.length)) (a :: x) = 0 := by simpa [agreeB] using hq
        rw [cmpR, if_neg hca] at h0
        exact absurd h0 hca
theorem take_filter {l : List (List V)} {p : List V → Bool} {i : Nat} (hlo : ∀ j (h : j < l.length), j < i → p l[j] = false) : l.filter p = (l.drop i).filter p := by
  conv => lhs; rw [← List.take_append_drop i l]
  rw [List.filter_append, List.filter_eq_nil_iff.2 (fun y hy => by
    obtain ⟨j, hj, rfl⟩ := List.getElem_of_mem hy
    rw [List.length_take] at hj
    rw [List.getElem_take, hlo j (by omega) (by omega)]
    simp), List.nil_append]
theorem filter_run {l : List (List V)} {p : List V → Bool} (h : l.Pairwise fun a b => p a = false → p b = false) : ∀ k, k < (l.filter p).length → k < l.length ∧ ∀ (h1 : k < (l.filter p).length) (h2 : k < l.length), (l.filter p)[k] = l[k] ∧ p l[k] = true := by
  induction l with
  | nil => intro k hk; simp at hk
  | cons a l ih =>
    obtain ⟨h1, h2⟩ := List.pairwise_cons.1 h
    intro k hk
    cases ha : p a
    · exfalso
      rw [List.filter_cons, ha] at hk
      have : l.filter p = [] := List.filter_eq_nil_iff.2 (fun y hy => by simp [h1 y hy ha])
      simp [this] at hk
    · rw [List.filter_cons, if_pos ha] at hk
      cases k with
      | zero => exact ⟨by simp, fun h1 h2 => ⟨by simp [List.filter_cons, ha], by simpa using ha⟩⟩
      | succ k =>
        have := ih h2 k (by simpa using hk)
        refine ⟨by simpa using this.1, fun h1 h2 => ?_⟩
        have h3 := this.2 (by simpa using hk) this.1
        simp only [List.filter_cons, ha, if_true, List.getElem_cons_succ]
        exact h3
theorem filter_end {l : List (List V)} {p : List V → Bool} (h : l.Pairwise fun a b => p a = false → p b = false) (hl : (l.filter p).length < l.length) : p (l[(l.filter p).length]'hl) = false := by
  induction l with
  | nil => simp at hl
  | cons a l ih =>
    obtain ⟨h1, h2⟩ := List.pairwise_cons.1 h
    cases ha : p a
    · have : l.filter p = [] := List.filter_eq_nil_iff.2 (fun y hy => by simp [h1 y hy ha])
      simp [List.filter_cons, ha, this]
    · have e : (a :: l).filter p = a :: l.filter p := by rw [List.filter_cons, if_pos ha]
      simp only [e, List.length_cons, List.getElem_cons_succ]
      exact ih h2 (by rw [e] at hl; simpa using hl)
/-- What the loop goes by: from the lower bound on, as many as agree. -/
theorem agree_run {l : List (List V)} {x : List V} {i : Nat} (hup : l.Pairwise fun a b => 0 ≤ cmpR b a) (hx : ∀ y ∈ l, x.length ≤ y.length) (hi : i ≤ l.length) (hlo : ∀ j (h : j < l.length), j < i → cmpR l[j] x < 0) (hge : ∀ j (h : j < l.length), i ≤ j → 0 ≤ cmpR l[j] x) :
    i + (agreeL l x).length ≤ l.length ∧ (∀ k (h : k < (agreeL l x).length) (h2 : i + k < l.length), (agreeL l x)[k] = l[i + k] ∧ agreeB x l[i + k] = true) ∧ (∀ (h : i + (agreeL l x).length < l.length), agreeB x l[i + (agreeL l x).length] = false) := by
  have e : agreeL l x = (l.drop i).filter (agreeB x) := by
    refine take_filter (fun j hj hji => ?_)
    cases hq : agreeB x l[j]
    · exact hq
    · have := agree_ge x l[j] hq (hx _ (List.getElem_mem hj)); have := hlo j hj hji; omega
  have hd : (l.drop i).Pairwise fun a b => agreeB x a = false → agreeB x b = false := by
    rw [List.pairwise_iff_getElem] at hup ⊢
    intro a b ha hb hab
    rw [List.length_drop] at ha hb
    rw [List.getElem_drop, List.getElem_drop]
    exact fun hf => agree_mid x l[i + a] l[i + b] (hx _ (List.getElem_mem _)) (hx _ (List.getElem_mem _)) (hge _ _ (by omega)) hf (hup _ _ _ _ (by omega))
  have hlen : ((l.drop i).filter (agreeB x)).length ≤ l.length - i := by
    have := List.length_filter_le (agreeB x) (l.drop i)
    rwa [List.length_drop] at this
  rw [e]
  refine ⟨by omega, fun k h h2 => ?_, fun h => ?_⟩
  · have h3 := filter_run hd k h
    have h4 := h3.2 h h3.1
    rw [List.getElem_drop] at h4
    exact h4
  · have h3 := filter_end hd (by rw [List.length_drop]; omega)
    rw [List.getElem_drop] at h3
    exact h3
set_option maxRecDepth 100000 in
theorem agree_any (pl px : Option Addr) (nl cl nx cx : Nat) (w : World) (R : Ending → World → Prop)
    (hR : R (.returned (.func (.func 118) #[] #[.pointer (some ⟨w.heap.size, 0, none⟩), .pointer (some ⟨w.heap.size + 1, 0, none⟩)])) ((w.alloc (.cells #[.slice pl nl cl] 32)).alloc (.cells #[.slice px nx cx] 42))) :
    Calls Try.prog 86 #[.slice pl nl cl, .slice px nx cx] w R := by
  go_enter Try.func86, Try.ntmps86
  go_wp2_with fail
  first | exact hR | exact fin hR rfl
set_option maxRecDepth 100000 in
set_option maxHeartbeats 8000000 in
theorem agree1_any (lo hi l2 h2 bl bx L m : Nat) (l : List (List V)) (pl px : Option Addr) (cl cx : Nat) (x : List V) (J : Nat → World → Prop) (Z : World → Prop) (hup : l.Pairwise fun a b => 0 ≤ cmpR b a) (hx : ∀ y ∈ l, x.length ≤ y.length) (hlen : l.length ≤ 1000000000)
    (hJF : ∀ k W, J k W → Rws lo hi W (.slice pl l.length cl) l ∧ hi ≤ W.heap.size ∧ Row1 l2 h2 W (.slice px x.length cx) x ∧ h2 ≤ W.heap.size ∧ Blk W bl [.slice pl l.length cl] 32 ∧ Blk W bx [.slice px x.length cx] 42)
    (hJB : ∀ k W W', J k W → Below W.heap.size W W' → J k W')
    (hY : ∀ k yp yc W, J k W → (hk : k < (agreeL l x).length) → Row1 lo hi W (.slice yp (agreeL l x)[k].length yc) (agreeL l x)[k] → YieldAt Fence.wide m Try.prog L #[.slice yp (agreeL l x)[k].length yc] W (fun e W' => (e = .returned (.bool true) ∧ J (k + 1) W') ∨ (e = .returned (.bool false) ∧ Z W')))
    (W0 : World) (hJ0 : J 0 W0) :
    CallsIn Fence.wide (m + 1) Try.prog 118 #[.func (.yield L) #[] #[], .pointer (some ⟨bl, 0, none⟩), .pointer (some ⟨bx, 0, none⟩)] W0 (fun e W' => (∃ v, e = .returned v) ∧ (J (agreeL l x).length W' ∨ Z W')) := by
  have HJF := Lib.hid hJF
  have HJB := Lib.hid hJB
  have HY := Lib.hid hY
  have Hx := Lib.hid hx
  have Hup := Lib.hid hup
  have HJ0 := Lib.hid hJ0
  obtain ⟨f1, f2, f3, f4, f5, f6⟩ := hJF _ _ hJ0
  have F1 := Lib.hid f1
  have F3 := Lib.hid f3
  have c0 := f5.cells.c1
  have d0 := f6.cells.c1
  have hxl := f3.len
  clear hJF hJB hY hx hup hJ0 f1 f3 f5 f6
  refine callsIn_of_wp Try.func118 rfl trivial ?_ rfl
  simp only [Try.ntmps118, List.size_toArray, List.length_cons, Nat.reduceAdd, Nat.reduceSub, Array.replicate_succ, Array.replicate_zero, List.push_toArray, List.append_toArray, List.nil_append, List.cons_append, List.length_nil]
  refine wpIn_wide.2 (wp_scope_straight ((wpIn_wide (n := m + 1)).1 ?_))
  gi_wp2_with fail
  refine ⟨by first | trivial | simp, callsIn_wide.2 (BinarySearch_any lo hi l2 h2 l _ x _ W0 F1.out f2 F3.out f4 Hup.out (by omega) _ (fun W1 i hB1 hil hlo hge => ?_))⟩
  have Hrun := Lib.hid (agree_run Hup.out Hx.out hil hlo hge)
  have hJ1 := HJB.out _ _ _ HJ0.out hB1
  have HJ1 := Lib.hid hJ1
  obtain ⟨f1, f2', f3, f4', f5, f6⟩ := HJF.out _ _ hJ1
  obtain ⟨v1, hv1, hd1⟩ := Sl.fromOn f1 32 Try.underlying32 size_RowH i hil
  have Hd1 := Lib.hid hd1
  obtain ⟨pd, cd, rfl, -, -, -, -⟩ := hd1.form
  have c0 := f5.cells.c1
  have hdl : (l.drop i).length = l.length - i := List.length_drop
  have Hdl : Hid ((l.drop i).length = l.length - i) := Lib.hid hdl
  have Hfrom : Hid (∀ W, Rws lo hi W (.slice pl l.length cl) l → Rws lo hi W (.slice pd (l.drop i).length cd) (l.drop i)) := Lib.hid (fun W hW => by
    obtain ⟨v2, hv2, hd2⟩ := Sl.fromOn hW 32 Try.underlying32 size_RowH i hil
    have e := (hv1 W).symm.trans (hv2 W)
    injection e with e
    rw [e]; exact hd2)
  have HD : Hid (∀ k (h : k < (agreeL l x).length), ∃ h2 : k < (l.drop i).length, (l.drop i)[k] = (agreeL l x)[k] ∧ agreeB x (l.drop i)[k] = true) := Lib.hid (fun k h => by
    have h1 := Hrun.out.1
    have h2 : i + k < l.length := by omega
    have h3 := Hrun.out.2.1 k h h2
    refine ⟨by rw [List.length_drop]; omega, ?_, ?_⟩
    · rw [List.getElem_drop]; exact h3.1.symm
    · rw [List.getElem_drop]; exact h3.2)
  have HE : Hid (∀ (h : (agreeL l x).length < (l.drop i).length), agreeB x (l.drop i)[(agreeL l x).length] = false) := Lib.hid (fun h => by
    rw [List.getElem_drop]
    exact Hrun.out.2.2 (by rw [List.length_drop] at h; omega))
  have Hxd : Hid (∀ y ∈ l.drop i, x.length ≤ y.length) := Lib.hid (fun y hy => Hx.out y (List.mem_of_mem_drop hy))
  have hTl : (agreeL l x).length ≤ (l.drop i).length := by have := Hrun.out.1; omega
  have hi63 : (l.drop i).length ≤ 1000000000 := by omega
  have ii0 : (0 : Int) ≤ (i : Int) := by omega
  clear hJ1 f1 f3 f5 f6 hB1 hlo hge hd1 hdl Hrun
  gi_wp2_with fail
  refine wpIn_label ?_
  gi_wp2_with fail
  clear hv1
  rw [← Hdl.out]
  generalize hD : l.drop i = D at *
  generalize hT : agreeL l x = T at *
  gi_loopw [18] (fun t18 wr => ∃ k : Nat, k ≤ T.length ∧ t18 = .int .i64 k ∧ J k wr) (fun t18 _ => D.length - (intOf t18).toNat)
  case atStart => exact ⟨0, Nat.zero_le _, rfl, HJ1.out⟩
  case round =>
    obtain ⟨k, hk, rfl, hj⟩ := hrel
    obtain ⟨wo, ewo⟩ : ∃ x, x = wr := ⟨_, rfl⟩
    subst ewo
    have HJ := Lib.hid hj
    have kk0 : (0 : Int) ≤ (k : Int) := by omega
    obtain ⟨f1, f2', f3, f4', f5, f6⟩ := HJF.out _ _ hj
    have F1 := Lib.hid (Hfrom.out _ f1)
    have F3 := Lib.hid f3
    have F6 := Lib.hid f6
    have hbxl := f6.lt
    clear hj f1 f3 f5 f6 c0 d0
    by_cases hlt : k < D.length
    · have kkl : (k : Int) < (D.length : Int) := by omega
      obtain ⟨b4, o4, rfl, hb4, hrow4⟩ := Rws.at F1.out (by omega) (by omega)
      obtain ⟨p2, c2, g2, r2⟩ := hrow4 k hlt
      have g0 := g2 wo (Below.refl _ _)
      have R2 := Lib.hid r2
      have hyl := Hxd.out _ (List.getElem_mem hlt)
      have hyl63 := r2.len
      have Hag : Hid (k < T.length → ∃ h : k < T.length, D[k] = T[k] ∧ agreeB x D[k] = true) := Lib.hid (fun h => by
        obtain ⟨h2, h3, h4⟩ := HD.out k h
        exact ⟨h, h3, h4⟩)
      have Hno : Hid (¬ k < T.length → agreeB x D[k] = false) := Lib.hid (fun h => by
        have e : T.length = k := by omega
        have := HE.out (by omega)
        simp only [e] at this
        exact this)
      obtain ⟨vt, hvt, hrt⟩ := Sl.upTo R2.out 42 Try.underlying42 (fun _ => by kernel_rfl) x.length hyl
      have Hrt := Lib.hid hrt
      obtain ⟨pt, ct, rfl, -, -, -, -⟩ := hrt.form
      clear hrow4 g2 r2 hrt
      generalize D[k] = y at *
      gi_wp2_with fail
      refine wpIn_region_any (by kernel_rfl) ?_
      change wpAnyIn _ _ _ _ _ _ _ _ _ wo.drew
      refine wpAnyIn_take (i := 0) (v := .slice p2 y.length c2) rfl rfl (by kernel_rfl) (by kernel_rfl) (by kernel_rfl) (fun _ _ _ h => h) ⟨Or.inl ⟨by rfl, fun w => by go_simp⟩, fun w => rfl⟩ ?_
      try simp only [Act.put, List.getElem_toArray, List.getElem_cons_succ, List.getElem_cons_zero, List.setIfInBounds_toArray, List.set_cons_zero, List.set_cons_succ]
      refine wpAnyIn_ready (rs := [1, 4]) (by kernel_rfl) (by simp) ?_
      refine allIn rfl (by kernel_rfl) (fun K hK => opValIn (v := .slice px x.length cx) (w' := wo.drew) (by have kx := F6.out.cells.c1; go_simp) (hK _ _ ?_)) ?_
      · try simp only [Act.put, List.getElem_toArray, List.getElem_cons_succ, List.getElem_cons_zero, List.setIfInBounds_toArray, List.set_cons_zero, List.set_cons_succ]
        refine wpAnyIn_take (i := 2) (v := .int .i64 x.length) rfl rfl (by kernel_rfl) (by kernel_rfl) (by kernel_rfl) (fun _ _ _ h => h) ⟨Or.inl ⟨by rfl, fun w => by go_simp⟩, fun w => rfl⟩ ?_
        try simp only [Act.put, List.getElem_toArray, List.getElem_cons_succ, List.getElem_cons_zero, List.setIfInBounds_toArray, List.set_cons_zero, List.set_cons_succ]
        refine wpAnyIn_take (i := 3) (v := .slice pt (y.take x.length).length ct) rfl rfl (by kernel_rfl) (by kernel_rfl) (by kernel_rfl) (fun _ _ _ h => h) ⟨Or.inl ⟨by rfl, fun w => by go_simp⟩, fun w => rfl⟩ ?_
        try simp only [Act.put, List.getElem_toArray, List.getElem_cons_succ, List.getElem_cons_zero, List.setIfInBounds_toArray, List.set_cons_zero, List.set_cons_succ]
        refine wpAnyIn_ready (rs := [4]) (by kernel_rfl) (by simp) ?_
        refine allIn rfl (by kernel_rfl) (fun K hK => opValIn (v := .slice px x.length cx) (w' := wo.drew) (by have kx := F6.out.cells.c1; go_simp) (hK _ _ ?_)) AllReadyIn.nil
        try simp only [Act.put, List.getElem_toArray, List.getElem_cons_succ, List.getElem_cons_zero, List.setIfInBounds_toArray, List.set_cons_zero, List.set_cons_succ]
        refine wpAnyIn_ready (rs := [5]) (by kernel_rfl) (by simp) ?_
        refine allIn rfl (by kernel_rfl) (fun K hK => opCallIn (f := 24) (args := #[.slice pt (y.take x.length).length ct, .slice px x.length cx]) (by kernel_rfl) (rowsCompareB_any lo hi l2 h2 (y.take x.length) x _ _ wo.drew (Sl.below Hrt.out Row1.loc ((Below.refl _ _).drew) f2') (Sl.below F3.out Row1.loc ((Below.refl _ _).drew) f4') (by show hi ≤ wo.heap.size; exact f2') (by show h2 ≤ wo.heap.size; exact f4') _ (fun wq hBq => ⟨_, rfl, hK _ _ ?_⟩))) AllReadyIn.nil
        try simp only [Act.put, List.getElem_toArray, List.getElem_cons_succ, List.getElem_cons_zero, List.setIfInBounds_toArray, List.set_cons_zero, List.set_cons_succ]
        have HBq : Hid (Below wo.heap.size wo wq) := Lib.hid (((Below.refl wo.heap.size wo).drew).trans hBq)
        have HJq := Lib.hid (HJB.out _ _ _ HJ.out HBq.out)
        clear hBq
        by_cases hkT : k < T.length
        · obtain ⟨hk2, rfl, hag⟩ := Hag.out hkT
          have hc0 : cmpR (T[k].take x.length) x = 0 := by simpa [agreeB] using hag
          have Hk2 : Hid (k < T.length) := Lib.hid hk2
          rw [hc0]
          obtain ⟨yf, yt, ya, yb, hy, hRy⟩ := HY.out k p2 c2 wq HJq.out hk2 (Sl.below R2.out Row1.loc HBq.out f2')
          clear hc0 hag Hag Hno
          generalize T[k] = y at *
          refine wpAnyIn_take (i := 6) (v := .bool false) rfl rfl (by kernel_rfl) (by kernel_rfl) (by kernel_rfl) (fun _ _ _ h => h) ⟨Or.inl ⟨by rfl, fun w => by go_simp⟩, fun w => rfl⟩ ?_
          try simp only [Act.put, List.getElem_toArray, List.getElem_cons_succ, List.getElem_cons_zero, List.setIfInBounds_toArray, List.set_cons_zero, List.set_cons_succ]
          refine wpAnyIn_take (i := 7) (v := .bool false) rfl rfl (by kernel_rfl) (by kernel_rfl) (by kernel_rfl) (fun _ _ _ h => h) ⟨Or.inl ⟨by rfl, fun w => by go_simp⟩, fun w => rfl⟩ ?_
          try simp only [Act.put, List.getElem_toArray, List.getElem_cons_succ, List.getElem_cons_zero, List.setIfInBounds_toArray, List.set_cons_zero, List.set_cons_succ]
          refine wpAnyIn_take (i := 8) (v := .func (.yield L) #[] #[]) rfl rfl (by kernel_rfl) (by kernel_rfl) (by kernel_rfl) (fun _ _ _ h => h) ⟨Or.inl ⟨by rfl, fun w => by go_simp⟩, fun w => rfl⟩ ?_
          try simp only [Act.put, List.getElem_toArray, List.getElem_cons_succ, List.getElem_cons_zero, List.setIfInBounds_toArray, List.set_cons_zero, List.set_cons_succ]
          refine wpAnyIn_take (i := 9) (v := .slice p2 y.length c2) rfl rfl (by kernel_rfl) (by kernel_rfl) (by kernel_rfl) (fun _ _ _ h => h) ⟨Or.inl ⟨by rfl, fun w => by go_simp⟩, fun w => rfl⟩ ?_
          try simp only [Act.put, List.getElem_toArray, List.getElem_cons_succ, List.getElem_cons_zero, List.setIfInBounds_toArray, List.set_cons_zero, List.set_cons_succ]
          refine wpAnyIn_ready (rs := [10]) (by kernel_rfl) (by simp) ?_
          refine allIn rfl (by kernel_rfl) (fun K hK => opYieldIn (l := L) (fn := yf) (tmps := yt) (assign := ya) (body := yb) (m := m) rfl (by go_simp) hRy (fun e w' he => ?_)) AllReadyIn.nil
          clear hy hRy
          rcases he with ⟨rfl, hj2⟩ | ⟨rfl, hz2⟩
          · refine ⟨_, rfl, hK _ _ ?_⟩
            have HJ2 := Lib.hid hj2
            clear hj2 hK
            try simp only [Act.put, List.getElem_toArray, List.getElem_cons_succ, List.getElem_cons_zero, List.setIfInBounds_toArray, List.set_cons_zero, List.set_cons_succ]
            refine wpAnyIn_take (i := 11) (v := .bool false) rfl rfl (by kernel_rfl) (by kernel_rfl) (by kernel_rfl) (fun _ _ _ h => h) ⟨Or.inl ⟨by rfl, fun w => by go_simp⟩, fun w => rfl⟩ ?_
            try simp only [Act.put, List.getElem_toArray, List.getElem_cons_succ, List.getElem_cons_zero, List.setIfInBounds_toArray, List.set_cons_zero, List.set_cons_succ]
            refine wpAnyIn_take (i := 12) (v := .bool false) rfl rfl (by kernel_rfl) (by kernel_rfl) (by kernel_rfl) (fun _ _ _ h => h) ⟨Or.inl ⟨by rfl, fun w => by go_simp⟩, fun w => rfl⟩ ?_
            try simp only [Act.put, List.getElem_toArray, List.getElem_cons_succ, List.getElem_cons_zero, List.setIfInBounds_toArray, List.set_cons_zero, List.set_cons_succ]
            refine wpAnyIn_done (by kernel_rfl) ?_ _
            gi_wp2_with fail
            go_roundw
            case rel => exact ⟨k + 1, by have := Hk2.out; omega, by go_num, HJ2.out⟩
            case measure => simp [intOf]; omega
          · refine ⟨_, rfl, hK _ _ ?_⟩
            have HZ2 := Lib.hid hz2
            clear hz2 hK
            try simp only [Act.put, List.getElem_toArray, List.getElem_cons_succ, List.getElem_cons_zero, List.setIfInBounds_toArray, List.set_cons_zero, List.set_cons_succ]
            refine wpAnyIn_take (i := 11) (v := .bool true) rfl rfl (by kernel_rfl) (by kernel_rfl) (by kernel_rfl) (fun _ _ _ h => h) ⟨Or.inl ⟨by rfl, fun w => by go_simp⟩, fun w => rfl⟩ ?_
            try simp only [Act.put, List.getElem_toArray, List.getElem_cons_succ, List.getElem_cons_zero, List.setIfInBounds_toArray, List.set_cons_zero, List.set_cons_succ]
            refine wpAnyIn_take (i := 12) (v := .bool true) rfl rfl (by kernel_rfl) (by kernel_rfl) (by kernel_rfl) (fun _ _ _ h => h) ⟨Or.inl ⟨by rfl, fun w => by go_simp⟩, fun w => rfl⟩ ?_
            try simp only [Act.put, List.getElem_toArray, List.getElem_cons_succ, List.getElem_cons_zero, List.setIfInBounds_toArray, List.set_cons_zero, List.set_cons_succ]
            refine wpAnyIn_done (by kernel_rfl) ?_ _
            gi_wp2_with fail
            (simp only [Exit.noGoto]; go_end0; exact ⟨⟨_, rfl⟩, .inr HZ2.out⟩)
        · have hag := Hno.out hkT
          have hc0 : ¬ cmpR (y.take x.length) x = 0 := by simpa [agreeB] using hag
          have hne : (cmpR (y.take x.length) x != 0) = true := by simp [hc0]
          clear hc0 hag Hag Hno
          generalize cmpR (y.take x.length) x = cv at *
          refine wpAnyIn_take (i := 6) (v := .bool true) rfl rfl (by kernel_rfl) (by kernel_rfl) (by kernel_rfl) (fun _ _ _ h => h) ⟨Or.inl ⟨by rfl, fun w => by go_simp⟩, fun w => rfl⟩ ?_
          try simp only [Act.put, List.getElem_toArray, List.getElem_cons_succ, List.getElem_cons_zero, List.setIfInBounds_toArray, List.set_cons_zero, List.set_cons_succ]
          refine wpAnyIn_take (i := 7) (v := .bool true) rfl rfl (by kernel_rfl) (by kernel_rfl) (by kernel_rfl) (fun _ _ _ h => h) ⟨Or.inl ⟨by rfl, fun w => by go_simp⟩, fun w => rfl⟩ ?_
          try simp only [Act.put, List.getElem_toArray, List.getElem_cons_succ, List.getElem_cons_zero, List.setIfInBounds_toArray, List.set_cons_zero, List.set_cons_succ]
          refine wpAnyIn_take (i := 8) (v := undef) rfl rfl (by kernel_rfl) (by kernel_rfl) (by kernel_rfl) (fun _ _ _ h => h) ⟨Or.inr ⟨by kernel_rfl, rfl⟩, fun w => rfl⟩ ?_
          try simp only [Act.put, List.getElem_toArray, List.getElem_cons_succ, List.getElem_cons_zero, List.setIfInBounds_toArray, List.set_cons_zero, List.set_cons_succ]
          refine wpAnyIn_take (i := 9) (v := undef) rfl rfl (by kernel_rfl) (by kernel_rfl) (by kernel_rfl) (fun _ _ _ h => h) ⟨Or.inr ⟨by kernel_rfl, rfl⟩, fun w => rfl⟩ ?_
          try simp only [Act.put, List.getElem_toArray, List.getElem_cons_succ, List.getElem_cons_zero, List.setIfInBounds_toArray, List.set_cons_zero, List.set_cons_succ]
          refine wpAnyIn_ready (rs := [10]) (by kernel_rfl) (by simp) ?_
          refine allInNo rfl (by kernel_rfl) ?_ AllReadyIn.nil
          try simp only [Act.put, List.getElem_toArray, List.getElem_cons_succ, List.getElem_cons_zero, List.setIfInBounds_toArray, List.set_cons_zero, List.set_cons_succ]
          refine wpAnyIn_take (i := 11) (v := undef) rfl rfl (by kernel_rfl) (by kernel_rfl) (by kernel_rfl) (fun _ _ _ h => h) ⟨Or.inr ⟨by kernel_rfl, rfl⟩, fun w => rfl⟩ ?_
          try simp only [Act.put, List.getElem_toArray, List.getElem_cons_succ, List.getElem_cons_zero, List.setIfInBounds_toArray, List.set_cons_zero, List.set_cons_succ]
          refine wpAnyIn_take (i := 12) (v := .bool true) rfl rfl (by kernel_rfl) (by kernel_rfl) (by kernel_rfl) (fun _ _ _ h => h) ⟨Or.inl ⟨by rfl, fun w => by go_simp⟩, fun w => rfl⟩ ?_
          try simp only [Act.put, List.getElem_toArray, List.getElem_cons_succ, List.getElem_cons_zero, List.setIfInBounds_toArray, List.set_cons_zero, List.set_cons_succ]
          refine wpAnyIn_done (by kernel_rfl) ?_ _
          have hkT2 : k = T.length := by omega
          have hjT : J T.length wq := hkT2 ▸ HJq.out
          have HJT := Lib.hid hjT
          clear hjT hkT2
          gi_wp2_with fail
          (simp only [Exit.noGoto]; go_end0; exact ⟨⟨_, rfl⟩, .inl (by first | exact HJT.out | (rw [hT]; exact HJT.out))⟩)
      refine allIn rfl (by kernel_rfl) (fun K hK => opValIn (v := .slice px x.length cx) (w' := wo.drew) (by have kx := F6.out.cells.c1; go_simp) (hK _ _ ?_)) AllReadyIn.nil
      try simp only [Act.put, List.getElem_toArray, List.getElem_cons_succ, List.getElem_cons_zero, List.setIfInBounds_toArray, List.set_cons_zero, List.set_cons_succ]
      refine wpAnyIn_ready (rs := [1]) (by kernel_rfl) (by simp) ?_
      refine allIn rfl (by kernel_rfl) (fun K hK => opValIn (v := .slice px x.length cx) (w' := wo.drew) (by have kx := F6.out.cells.c1; go_simp) (hK _ _ ?_)) AllReadyIn.nil
      try simp only [Act.put, List.getElem_toArray, List.getElem_cons_succ, List.getElem_cons_zero, List.setIfInBounds_toArray, List.set_cons_zero, List.set_cons_succ]
      refine wpAnyIn_take (i := 2) (v := .int .i64 x.length) rfl rfl (by kernel_rfl) (by kernel_rfl) (by kernel_rfl) (fun _ _ _ h => h) ⟨Or.inl ⟨by rfl, fun w => by go_simp⟩, fun w => rfl⟩ ?_
      try simp only [Act.put, List.getElem_toArray, List.getElem_cons_succ, List.getElem_cons_zero, List.setIfInBounds_toArray, List.set_cons_zero, List.set_cons_succ]
      refine wpAnyIn_take (i := 3) (v := .slice pt (y.take x.length).length ct) rfl rfl (by kernel_rfl) (by kernel_rfl) (by kernel_rfl) (fun _ _ _ h => h) ⟨Or.inl ⟨by rfl, fun w => by go_simp⟩, fun w => rfl⟩ ?_
      try simp only [Act.put, List.getElem_toArray, List.getElem_cons_succ, List.getElem_cons_zero, List.setIfInBounds_toArray, List.set_cons_zero, List.set_cons_succ]
      refine wpAnyIn_ready (rs := [5]) (by kernel_rfl) (by simp) ?_
      refine allIn rfl (by kernel_rfl) (fun K hK => opCallIn (f := 24) (args := #[.slice pt (y.take x.length).length ct, .slice px x.length cx]) (by kernel_rfl) (rowsCompareB_any lo hi l2 h2 (y.take x.length) x _ _ wo.drew (Sl.below Hrt.out Row1.loc ((Below.refl _ _).drew) f2') (Sl.below F3.out Row1.loc ((Below.refl _ _).drew) f4') (by show hi ≤ wo.heap.size; exact f2') (by show h2 ≤ wo.heap.size; exact f4') _ (fun wq hBq => ⟨_, rfl, hK _ _ ?_⟩))) AllReadyIn.nil
      try simp only [Act.put, List.getElem_toArray, List.getElem_cons_succ, List.getElem_cons_zero, List.setIfInBounds_toArray, List.set_cons_zero, List.set_cons_succ]
      have HBq : Hid (Below wo.heap.size wo wq) := Lib.hid (((Below.refl wo.heap.size wo).drew).trans hBq)
      have HJq := Lib.hid (HJB.out _ _ _ HJ.out HBq.out)
      clear hBq
      by_cases hkT : k < T.length
      · obtain ⟨hk2, rfl, hag⟩ := Hag.out hkT
        have hc0 : cmpR (T[k].take x.length) x = 0 := by simpa [agreeB] using hag
        have Hk2 : Hid (k < T.length) := Lib.hid hk2
        rw [hc0]
        obtain ⟨yf, yt, ya, yb, hy, hRy⟩ := HY.out k p2 c2 wq HJq.out hk2 (Sl.below R2.out Row1.loc HBq.out f2')
        clear hc0 hag Hag Hno
        generalize T[k] = y at *
        refine wpAnyIn_take (i := 6) (v := .bool false) rfl rfl (by kernel_rfl) (by kernel_rfl) (by kernel_rfl) (fun _ _ _ h => h) ⟨Or.inl ⟨by rfl, fun w => by go_simp⟩, fun w => rfl⟩ ?_
        try simp only [Act.put, List.getElem_toArray, List.getElem_cons_succ, List.getElem_cons_zero, List.setIfInBounds_toArray, List.set_cons_zero, List.set_cons_succ]
        refine wpAnyIn_take (i := 7) (v := .bool false) rfl rfl (by kernel_rfl) (by kernel_rfl) (by kernel_rfl) (fun _ _ _ h => h) ⟨Or.inl ⟨by rfl, fun w => by go_simp⟩, fun w => rfl⟩ ?_
        try simp only [Act.put, List.getElem_toArray, List.getElem_cons_succ, List.getElem_cons_zero, List.setIfInBounds_toArray, List.set_cons_zero, List.set_cons_succ]
        refine wpAnyIn_take (i := 8) (v := .func (.yield L) #[] #[]) rfl rfl (by kernel_rfl) (by kernel_rfl) (by kernel_rfl) (fun _ _ _ h => h) ⟨Or.inl ⟨by rfl, fun w => by go_simp⟩, fun w => rfl⟩ ?_
        try simp only [Act.put, List.getElem_toArray, List.getElem_cons_succ, List.getElem_cons_zero, List.setIfInBounds_toArray, List.set_cons_zero, List.set_cons_succ]
        refine wpAnyIn_take (i := 9) (v := .slice p2 y.length c2) rfl rfl (by kernel_rfl) (by kernel_rfl) (by kernel_rfl) (fun _ _ _ h => h) ⟨Or.inl ⟨by rfl, fun w => by go_simp⟩, fun w => rfl⟩ ?_
        try simp only [Act.put, List.getElem_toArray, List.getElem_cons_succ, List.getElem_cons_zero, List.setIfInBounds_toArray, List.set_cons_zero, List.set_cons_succ]
        refine wpAnyIn_ready (rs := [10]) (by kernel_rfl) (by simp) ?_
        refine allIn rfl (by kernel_rfl) (fun K hK => opYieldIn (l := L) (fn := yf) (tmps := yt) (assign := ya) (body := yb) (m := m) rfl (by go_simp) hRy (fun e w' he => ?_)) AllReadyIn.nil
        clear hy hRy
        rcases he with ⟨rfl, hj2⟩ | ⟨rfl, hz2⟩
        · refine ⟨_, rfl, hK _ _ ?_⟩
          have HJ2 := Lib.hid hj2
          clear hj2 hK
          try simp only [Act.put, List.getElem_toArray, List.getElem_cons_succ, List.getElem_cons_zero, List.setIfInBounds_toArray, List.set_cons_zero, List.set_cons_succ]
          refine wpAnyIn_take (i := 11) (v := .bool false) rfl rfl (by kernel_rfl) (by kernel_rfl) (by kernel_rfl) (fun _ _ _ h => h) ⟨Or.inl ⟨by rfl, fun w => by go_simp⟩, fun w => rfl⟩ ?_
          try simp only [Act.put, List.getElem_toArray, List.getElem_cons_succ, List.getElem_cons_zero, List.setIfInBounds_toArray, List.set_cons_zero, List.set_cons_succ]
          refine wpAnyIn_take (i := 12) (v := .bool false) rfl rfl (by kernel_rfl) (by kernel_rfl) (by kernel_rfl) (fun _ _ _ h => h) ⟨Or.inl ⟨by rfl, fun w => by go_simp⟩, fun w => rfl⟩ ?_
          try simp only [Act.put, List.getElem_toArray, List.getElem_cons_succ, List.getElem_cons_zero, List.setIfInBounds_toArray, List.set_cons_zero, List.set_cons_succ]
          refine wpAnyIn_done (by kernel_rfl) ?_ _
          gi_wp2_with fail
          go_roundw
          case rel => exact ⟨k + 1, by have := Hk2.out; omega, by go_num, HJ2.out⟩
          case measure => simp [intOf]; omega
        · refine ⟨_, rfl, hK _ _ ?_⟩
          have HZ2 := Lib.hid hz2
          clear hz2 hK
          try simp only [Act.put, List.getElem_toArray, List.getElem_cons_succ, List.getElem_cons_zero, List.setIfInBounds_toArray, List.set_cons_zero, List.set_cons_succ]
          refine wpAnyIn_take (i := 11) (v := .bool true) rfl rfl (by kernel_rfl) (by kernel_rfl) (by kernel_rfl) (fun _ _ _ h => h) ⟨Or.inl ⟨by rfl, fun w => by go_simp⟩, fun w => rfl⟩ ?_
          try simp only [Act.put, List.getElem_toArray, List.getElem_cons_succ, List.getElem_cons_zero, List.setIfInBounds_toArray, List.set_cons_zero, List.set_cons_succ]
          refine wpAnyIn_take (i := 12) (v := .bool true) rfl rfl (by kernel_rfl) (by kernel_rfl) (by kernel_rfl) (fun _ _ _ h => h) ⟨Or.inl ⟨by rfl, fun w => by go_simp⟩, fun w => rfl⟩ ?_
          try simp only [Act.put, List.getElem_toArray, List.getElem_cons_succ, List.getElem_cons_zero, List.setIfInBounds_toArray, List.set_cons_zero, List.set_cons_succ]
          refine wpAnyIn_done (by kernel_rfl) ?_ _
          gi_wp2_with fail
          (simp only [Exit.noGoto]; go_end0; exact ⟨⟨_, rfl⟩, .inr HZ2.out⟩)
      · have hag := Hno.out hkT
        have hc0 : ¬ cmpR (y.take x.length) x = 0 := by simpa [agreeB] using hag
        have hne : (cmpR (y.take x.length) x != 0) = true := by simp [hc0]
        clear hc0 hag Hag Hno
        generalize cmpR (y.take x.length) x = cv at *
        refine wpAnyIn_take (i := 6) (v := .bool true) rfl rfl (by kernel_rfl) (by kernel_rfl) (by kernel_rfl) (fun _ _ _ h => h) ⟨Or.inl ⟨by rfl, fun w => by go_simp⟩, fun w => rfl⟩ ?_
        try simp only [Act.put, List.getElem_toArray, List.getElem_cons_succ, List.getElem_cons_zero, List.setIfInBounds_toArray, List.set_cons_zero, List.set_cons_succ]
        refine wpAnyIn_take (i := 7) (v := .bool true) rfl rfl (by kernel_rfl) (by kernel_rfl) (by kernel_rfl) (fun _ _ _ h => h) ⟨Or.inl ⟨by rfl, fun w => by go_simp⟩, fun w => rfl⟩ ?_
        try simp only [Act.put, List.getElem_toArray, List.getElem_cons_succ, List.getElem_cons_zero, List.setIfInBounds_toArray, List.set_cons_zero, List.set_cons_succ]
        refine wpAnyIn_take (i := 8) (v := undef) rfl rfl (by kernel_rfl) (by kernel_rfl) (by kernel_rfl) (fun _ _ _ h => h) ⟨Or.inr ⟨by kernel_rfl, rfl⟩, fun w => rfl⟩ ?_
        try simp only [Act.put, List.getElem_toArray, List.getElem_cons_succ, List.getElem_cons_zero, List.setIfInBounds_toArray, List.set_cons_zero, List.set_cons_succ]
        refine wpAnyIn_take (i := 9) (v := undef) rfl rfl (by kernel_rfl) (by kernel_rfl) (by kernel_rfl) (fun _ _ _ h => h) ⟨Or.inr ⟨by kernel_rfl, rfl⟩, fun w => rfl⟩ ?_
        try simp only [Act.put, List.getElem_toArray, List.getElem_cons_succ, List.getElem_cons_zero, List.setIfInBounds_toArray, List.set_cons_zero, List.set_cons_succ]
        refine wpAnyIn_ready (rs := [10]) (by kernel_rfl) (by simp) ?_
        refine allInNo rfl (by kernel_rfl) ?_ AllReadyIn.nil
        try simp only [Act.put, List.getElem_toArray, List.getElem_cons_succ, List.getElem_cons_zero, List.setIfInBounds_toArray, List.set_cons_zero, List.set_cons_succ]
        refine wpAnyIn_take (i := 11) (v := undef) rfl rfl (by kernel_rfl) (by kernel_rfl) (by kernel_rfl) (fun _ _ _ h => h) ⟨Or.inr ⟨by kernel_rfl, rfl⟩, fun w => rfl⟩ ?_
        try simp only [Act.put, List.getElem_toArray, List.getElem_cons_succ, List.getElem_cons_zero, List.setIfInBounds_toArray, List.set_cons_zero, List.set_cons_succ]
        refine wpAnyIn_take (i := 12) (v := .bool true) rfl rfl (by kernel_rfl) (by kernel_rfl) (by kernel_rfl) (fun _ _ _ h => h) ⟨Or.inl ⟨by rfl, fun w => by go_simp⟩, fun w => rfl⟩ ?_
        try simp only [Act.put, List.getElem_toArray, List.getElem_cons_succ, List.getElem_cons_zero, List.setIfInBounds_toArray, List.set_cons_zero, List.set_cons_succ]
        refine wpAnyIn_done (by kernel_rfl) ?_ _
        have hkT2 : k = T.length := by omega
        have hjT : J T.length wq := hkT2 ▸ HJq.out
        have HJT := Lib.hid hjT
        clear hjT hkT2
        gi_wp2_with fail
        (simp only [Exit.noGoto]; go_end0; exact ⟨⟨_, rfl⟩, .inl (by first | exact HJT.out | (rw [hT]; exact HJT.out))⟩)
    · have llt : ¬ (k : Int) < (D.length : Int) := by omega
      have hkT2 : k = T.length := by omega
      have hjT : J T.length wo := hkT2 ▸ HJ.out
      have HJT := Lib.hid hjT
      clear hjT hkT2
      gi_wp2_with fail
      try simp only [Exit.noGoto]
      go_end0
      exact ⟨⟨_, rfl⟩, .inl (by first | exact HJT.out | (rw [hT]; exact HJT.out))⟩
end Go.Proofs.Ytpncblagjkbemaa
end

/- Without. (Printed by mee.py.) -/
section
set_option linter.unusedVariables false
set_option linter.unusedSimpArgs false
namespace Go.Proofs.Ytpncblagjkbemaa
open Go.RowKit Go.Shelf
set_option linter.unusedVariables false
set_option linter.unusedSimpArgs false
attribute [local go_sem] Oper.semAt_some

theorem heap_lt {w : World} {k : Nat} {o : Obj} (h : w.heap[k]? = some o) : k < w.heap.size := (Array.getElem?_eq_some_iff.1 h).1
/-- A walk's post, with every end but the usual one made False. -/
def calm (Q : Exit → Act → World → Prop) : Exit → Act → World → Prop
  | .normal, a, w => Q .normal a w
  | _, _, _ => False
theorem wp_calm {P : Program} {c : Code} {Q : Exit → Act → World → Prop} {a : Act} {w : World} (h : c.wp P (calm Q) a w) : c.wp P Q a w :=
  wp_mono h (fun e a w h => by cases e <;> first | exact h | exact h.elim)
theorem calm_normal {Q : Exit → Act → World → Prop} {a : Act} {w : World} (h : Q .normal a w) : calm Q .normal a w := h
theorem roundPost_retR {P : Program} {RL : LoopState → Option Code → Loop} {l : Nat} {fn : FuncId} {tmps : Array Value} {ps : Array Tmp} {assign body : Code} {D : Nat} {W : World} {R : Ending → World → Prop} {a : Act}
    (hRL : RL = recL fn tmps ps assign body D) (hl : W.heap[l]? = some (.loop (RL .busy none)))
    (h : R (.returned (.bool false)) (W.putObj l (.loop (RL .done (some .ret))))) : roundPost P l R .ret a W := by subst hRL; exact roundPost_ret hl h
theorem results_cells {P : Program} {fn : Func} {t u : Tmp} {ty uy : TypeId} {tmps : Array Value} {w : World} {a b : Addr} {v1 v2 : Value} (h : fn.results = #[.cell t ty, .cell u uy]) (ht : tmps.getD t undef = .pointer (some a)) (hu : tmps.getD u undef = .pointer (some b))
    (h1 : (loadVar ty a).run P w = .ok v1 w) (h2 : (loadVar uy b).run P w = .ok v2 w) : (results fn tmps).run P w = .ok (.tuple #[v1, v2]) w := by
  simp only [results, h]
  have ht' : (tmps[t]?).getD undef = .pointer (some a) := by simpa using ht
  have hu' : (tmps[u]?).getD undef = .pointer (some b) := by simpa using hu
  simp [Sem.run_bind, Result.andThen, ht', hu', asAddr, h1, h2]
/-- What Without's rounds keep: none has come yet. -/
structure WoJ (L D : Nat) (w4 : World) (rc : Obj) (k : Nat) (W : World) : Prop where
  k0 : k = 0
  lp : W.heap[L]? = some rc
  df : W.heap[D]? = some (.deferred (some []))
  b : Below w4.heap.size w4 W
def WoZ (N : Prop) (L D b4 b5 : Nat) (w : World) (rc : Obj) (W : World) : Prop := N ∧ W.heap[L]? = some rc ∧ W.heap[D]? = some (.deferred (some [])) ∧ Below w.heap.size w W ∧ Blk W b4 [.slice none 0 0] 42 ∧ Blk W b5 [.bool false] 4
set_option maxRecDepth 100000 in
set_option maxHeartbeats 8000000 in
theorem Without1_any (lo hi l2 h2 lx hx bl bt : Nat) (l : List (List V)) (pl : Option Addr) (cl : Nat) (at' : List Int) (va : Value) (x : List V) (vx : Value) (w : World) (hl : Rws lo hi w (.slice pl l.length cl) l) (hhi : hi ≤ w.heap.size) (hat : Ints l2 h2 w va at') (hh2 : h2 ≤ w.heap.size) (hxr : Row1 lx hx w vx x) (hhx : hx ≤ w.heap.size)
    (hbl : Blk w bl [.slice pl l.length cl] 32) (hbt : Blk w bt [va] 84) (hup : l.Pairwise fun a b => 0 ≤ cmpR b a) (hln : ∀ y ∈ l, at'.length ≤ y.length) (hlen : l.length ≤ 1000000000) (hok : AtOk x.length at') (hal : at'.length ≤ 1000000) (hxl : x.length ≤ 1000000) (R : Ending → World → Prop)
    (hR : ∀ w' yv, Below w.heap.size w w' → ((agreeL l (pickL x at')).isEmpty = true → OwnV w.heap.size w' yv x) → (∃ a m c, yv = .slice a m c) → R (.returned (.tuple #[yv, .bool (agreeL l (pickL x at')).isEmpty])) w') :
    Calls Try.prog 92 #[vx, .pointer (some ⟨bl, 0, none⟩), .pointer (some ⟨bt, 0, none⟩)] w R := by
  have HR := Lib.hid hR
  have Hl := Lib.hid hl
  have Hat := Lib.hid hat
  have Hxr := Lib.hid hxr
  have Hbl := Lib.hid hbl
  have Hbt := Lib.hid hbt
  have Hup := Lib.hid hup
  have Hln := Lib.hid hln
  have Hok := Lib.hid hok
  have hbll := hbl.lt
  have hbtl := hbt.lt
  obtain ⟨px, cx, rfl, -, -, -, -⟩ := hxr.form
  obtain ⟨pa, ca, rfl, -, -, -, -⟩ := hat.form
  clear hR hl hat hxr hbl hbt hup hln hok
  refine (callsIn_wide (n := 3)).1 (callsIn_of_wp_marks Try.func92 rfl trivial ?_ rfl)
  refine wpIn_wide.2 ?_
  simp only [Try.ntmps92, List.size_toArray, List.length_cons, Nat.reduceAdd, Nat.reduceSub, Array.replicate_succ, Array.replicate_zero, List.push_toArray, List.append_toArray, List.nil_append, List.cons_append, List.length_nil]
  obtain ⟨w1, ew1⟩ : ∃ y, y = w.alloc (.cells #[.slice none 0 0] 42) := ⟨_, rfl⟩
  obtain ⟨w2, ew2⟩ : ∃ y, y = w1.alloc (.cells #[.bool false] 4) := ⟨_, rfl⟩
  have s1 : w1.heap.size = w.heap.size + 1 := by rw [ew1]; simp
  have hB1 : Below w.heap.size w w1 := by rw [ew1]; exact alloc_below _ _
  have hB2 : Below w1.heap.size w1 w2 := by rw [ew2]; exact alloc_below _ _
  have hb4 : Blk w1 w.heap.size [.slice none 0 0] 42 := by rw [ew1]; exact Blk.new w [.slice none 0 0] _ rfl
  have hb5 : Blk w2 (w.heap.size + 1) [.bool false] 4 := by rw [ew2]; exact Blk.new w1 [.bool false] _ s1.symm
  have hb4 := hb4.below hB2 hb4.lt
  have hB := hB1.trans (hB2.mono hB1.size)
  go_upto_region 1 with fail
  rw [← ew1, ← ew2]
  have HB := Lib.hid hB
  have Hb4 := Lib.hid hb4
  have Hb5 := Lib.hid hb5
  have hz2 := hB.size
  have hl5 := hb5.lt
  clear ew1 ew2 s1 hB1 hB2 hb4 hb5 hB
  refine wp_calm ?_
  have hS0 : Below w2.heap.size w2 w2.drew := (Below.refl _ _).drew
  refine wp_region_held_drew (S := fun w' => Below w2.heap.size w2 w') (by kernel_rfl) hS0 (fun hHeld => ?_)
  refine wpAnyH_take (i := 0) (v := .slice pl l.length cl) rfl (by kernel_rfl) (by kernel_rfl) (by kernel_rfl) (fun _ _ _ h => h) (Or.inl ⟨by rfl, ?_⟩) hHeld ?_
  · intro w' hSw; have kx := (Hbl.out.below (HB.out.trans (hSw.mono hz2)) (by omega)).cells.c1; go_simp
  try simp only [Act.put, List.getElem_toArray, List.getElem_cons_succ, List.getElem_cons_zero, List.setIfInBounds_toArray, List.set_cons_zero, List.set_cons_succ]
  refine wpAnyH_take (i := 1) (v := .slice px x.length cx) rfl (by kernel_rfl) (by kernel_rfl) (by kernel_rfl) (fun _ _ _ h => h) (Or.inl ⟨by rfl, ?_⟩) hHeld ?_
  · intro w' hSw; go_simp
  try simp only [Act.put, List.getElem_toArray, List.getElem_cons_succ, List.getElem_cons_zero, List.setIfInBounds_toArray, List.set_cons_zero, List.set_cons_succ]
  refine wpAnyH_take (i := 2) (v := .slice pa at'.length ca) rfl (by kernel_rfl) (by kernel_rfl) (by kernel_rfl) (fun _ _ _ h => h) (Or.inl ⟨by rfl, ?_⟩) hHeld ?_
  · intro w' hSw; have kx := (Hbt.out.below (HB.out.trans (hSw.mono hz2)) (by omega)).cells.c1; go_simp
  try simp only [Act.put, List.getElem_toArray, List.getElem_cons_succ, List.getElem_cons_zero, List.setIfInBounds_toArray, List.set_cons_zero, List.set_cons_succ]
  refine wpAnyH_ready (rs := [3]) (by kernel_rfl) (by simp) ?_
  refine allCall (f := 77) (args := #[.slice px x.length cx, .slice pa at'.length ca]) rfl (by kernel_rfl) (by kernel_rfl) ?_ AllReadyH.nil
  have HBd : Hid (Below w.heap.size w w2.drew) := Lib.hid HB.out.drew
  refine pick_any lx hx l2 h2 x at' _ _ w2.drew (Sl.below Hxr.out Row1.loc HBd.out hhx) (by show hx ≤ w2.heap.size; omega) (Sl.below Hat.out Ints.loc HBd.out hh2) (by show h2 ≤ w2.heap.size; omega) Hok.out (by omega) _ (fun wq vq hBq hoq => ?_)
  have hB2q : Below w2.heap.size w2 wq := ((Below.refl _ _).drew).trans hBq
  obtain ⟨pq, qq, rfl⟩ := Own.slice hoq
  have HB2q := Lib.hid hB2q
  have Hoq : Hid (OwnV w2.heap.size wq (.slice pq (pickL x at').length qq) (pickL x at')) := Lib.hid hoq
  have hzq := hB2q.size
  refine ⟨_, rfl, hB2q, ?_⟩
  clear hHeld hBq hoq hB2q
  have hHeld := HB2q.out
  try simp only [Act.put, List.getElem_toArray, List.getElem_cons_succ, List.getElem_cons_zero, List.setIfInBounds_toArray, List.set_cons_zero, List.set_cons_succ]
  refine wpAnyH_ready (rs := [4]) (by kernel_rfl) (by simp) ?_
  refine allCall (f := 86) (args := #[.slice pl l.length cl, .slice pq (pickL x at').length qq]) rfl (by kernel_rfl) (by kernel_rfl) ?_ AllReadyH.nil
  refine agree_any pl pq l.length cl (pickL x at').length qq wq _ ?_
  have hBa := alloc_below wq (.cells #[.slice pl l.length cl] 32)
  have hka := Blk.new wq [.slice pl l.length cl] 32 rfl
  have hsa : (wq.alloc (.cells #[.slice pl l.length cl] 32)).heap.size = wq.heap.size + 1 := by simp
  have hBb := alloc_below (wq.alloc (.cells #[.slice pl l.length cl] 32)) (.cells #[.slice pq (pickL x at').length qq] 42)
  have hkb := Blk.new (wq.alloc (.cells #[.slice pl l.length cl] 32)) [.slice pq (pickL x at').length qq] 42 hsa.symm
  have hka4 := hka.below hBb hka.lt
  have hB4 := hBa.trans (hBb.mono hBa.size)
  clear hka hBa hBb hsa
  generalize (wq.alloc (.cells #[.slice pl l.length cl] 32)).alloc (.cells #[.slice pq (pickL x at').length qq] 42) = W4 at *
  have hB24 := HB2q.out.trans (hB4.mono hzq)
  refine ⟨_, rfl, hB24, ?_⟩
  have HB4 := Lib.hid hB4
  have HB24 := Lib.hid hB24
  have Hka := Lib.hid hka4
  have Hkb := Lib.hid hkb
  have hz4 := hB4.size
  have hkbl := hkb.lt
  have hkal := hka4.lt
  clear hHeld hB4 hka4 hkb hB24
  have hHeld := HB24.out
  try simp only [Act.put, List.getElem_toArray, List.getElem_cons_succ, List.getElem_cons_zero, List.setIfInBounds_toArray, List.set_cons_zero, List.set_cons_succ]
  refine wpAnyH_done (by kernel_rfl) ?_ _
  clear hHeld
  refine calm_normal ?_
  obtain ⟨T, hT⟩ : ∃ T, agreeL l (pickL x at') = T := ⟨_, rfl⟩
  rw [hT] at HR
  go_wp2_with fail
  refine wp_rangeFuncR 2 (gf := 118) rfl (enters_of Try.func118 (by kernel_rfl) rfl) (fun fn RL hRL => ?_)
  have HRL := Lib.hid hRL
  clear hRL
  have hB5 : Below W4.heap.size W4 ((W4.alloc (.deferred (some []))).alloc (.loop (RL .ready none))) := ((Below.refl _ _).alloc (Nat.le_refl _) _).alloc (by simp) _
  have hlD : ((W4.alloc (.deferred (some []))).alloc (.loop (RL .ready none))).heap[W4.heap.size]? = some (.deferred (some [])) := (Below.heap_alloc _ _ _ (by simp)).trans (World.alloc_heap_new W4 _)
  have hlL : ((W4.alloc (.deferred (some []))).alloc (.loop (RL .ready none))).heap[W4.heap.size + 1]? = some (.loop (RL .ready none)) := by
    have := World.alloc_heap_new (W4.alloc (.deferred (some []))) (.loop (RL .ready none))
    rwa [World.size_alloc] at this
  generalize (W4.alloc (.deferred (some []))).alloc (.loop (RL .ready none)) = W5 at *
  have hJ0 : WoJ (W4.heap.size + 1) W4.heap.size W4 (.loop (RL .ready none)) 0 W5 := ⟨rfl, hlL, hlD, hB5⟩
  have HBw4 := Lib.hid (HB.out.trans (HB24.out.mono hz2))
  have hz24 := HB24.out.size
  have Hl4 := Lib.hid (Sl.below Hl.out rowE_loc HBw4.out hhi)
  have Hp4 := Lib.hid (Sl.below (OwnV.sl Hoq.out) Row1.loc HB4.out (Nat.le_refl _))
  have Hb44 := Lib.hid (Hb4.out.below HB24.out (by omega))
  have Hb54 := Lib.hid (Hb5.out.below HB24.out hl5)
  have hpl : (pickL x at').length = at'.length := by unfold pickL; simp
  have Hpl : Hid ((pickL x at').length = at'.length) := Lib.hid hpl
  clear hpl hB5 hlD hlL
  refine (agree1_any lo hi w2.heap.size wq.heap.size wq.heap.size (wq.heap.size + 1) (W4.heap.size + 1) 1 l pl pq cl qq (pickL x at') (WoJ (W4.heap.size + 1) W4.heap.size W4 (.loop (RL .ready none))) (WoZ (T ≠ []) (W4.heap.size + 1) W4.heap.size w.heap.size (w.heap.size + 1) w (.loop (RL .done (some .ret)))) Hup.out (fun y hy => by rw [Hpl.out]; exact Hln.out y hy) hlen ?hJF ?hJB ?hY W5 hJ0).mono ?hend
  case hJF =>
    intro k W h
    have hz := h.b.size
    exact ⟨Sl.below Hl4.out rowE_loc h.b (by omega), by omega, Sl.below Hp4.out Row1.loc h.b (by omega), by omega, Hka.out.below h.b (by omega), Hkb.out.below h.b (by omega)⟩
  case hJB =>
    intro k W W' h hB
    have hz := h.b.size
    exact ⟨h.k0, (hB.block _ (heap_lt h.lp)).trans h.lp, (hB.block _ (heap_lt h.df)).trans h.df, h.b.trans (hB.mono hz)⟩
  case hY =>
    intro k yp yc W h hk hrow
    have hLl := heap_lt h.lp
    have HJ := Lib.hid h
    have hz := h.b.size
    have HN : Hid (T ≠ []) := Lib.hid (fun e => by rw [← hT] at e; rw [e] at hk; simp at hk)
    clear h hrow hJ0
    generalize hL : W4.heap.size + 1 = L at *
    have hL4 : W4.heap.size < L := by omega
    have HL4 : Hid (W4.heap.size < L) := Lib.hid hL4
    clear hL
    refine yieldAt_recR HRL.out HJ.out.lp rfl ?_
    gi_wp2_with fail
    refine ⟨HJ.out.lp, ?_⟩
    have ho3 : Only (· = L) W (W.putObj L (.loop (RL .busy none))) := Only.putObj (A := (· = L)) W (b := L) rfl _
    have hl3 : (W.putObj L (.loop (RL .busy none))).heap[L]? = some (.loop (RL .busy none)) := World.putObj_heap_same hLl
    generalize W.putObj L (.loop (RL .busy none)) = W3 at *
    have hs3 := ho3.size
    have hB3 : Below W4.heap.size W4 W3 := HJ.out.b.trans (ho3.below (by omega) (fun k e => by omega))
    have hb43 := Hb44.out.below hB3 (by omega)
    have hb53 := Hb54.out.below hB3 (by omega)
    have hdf3 := (ho3.block W4.heap.size (heap_lt HJ.out.df) (by omega)).trans HJ.out.df
    have c4 := hb43.cells.c1
    have f4 := hb43.free 0
    have c5 := hb53.cells.c1
    have f5 := hb53.free 0
    have HB3 := Lib.hid hB3
    have Hl3 := Lib.hid hl3
    have Hb43 := Lib.hid hb43
    have Hb53 := Lib.hid hb53
    have Hdf3 := Lib.hid hdf3
    clear ho3 hl3 hB3 hb43 hb53 hdf3
    gi_wp2_with fail
    have hO : Only (fun z => z = w.heap.size ∨ z = w.heap.size + 1) W3 ((W3.setCell ⟨w.heap.size, 0, none⟩ (.slice none 0 0)).setCell ⟨w.heap.size + 1, 0, none⟩ (.bool false)) := (Only.setCell (A := fun z => z = w.heap.size ∨ z = w.heap.size + 1) W3 (p := ⟨w.heap.size, 0, none⟩) (.inl rfl) _).trans (Only.setCell _ (p := ⟨w.heap.size + 1, 0, none⟩) (.inr rfl) _)
    have hb4n : Blk ((W3.setCell ⟨w.heap.size, 0, none⟩ (.slice none 0 0)).setCell ⟨w.heap.size + 1, 0, none⟩ (.bool false)) w.heap.size [.slice none 0 0] 42 := (Hb43.out.set 0 (.slice none 0 0)).other (by show w.heap.size ≠ w.heap.size + 1; omega) _
    have hb5n : Blk ((W3.setCell ⟨w.heap.size, 0, none⟩ (.slice none 0 0)).setCell ⟨w.heap.size + 1, 0, none⟩ (.bool false)) (w.heap.size + 1) [.bool false] 4 := (Hb53.out.other (p := ⟨w.heap.size, 0, none⟩) (by show w.heap.size + 1 ≠ w.heap.size; omega) _).set 0 (.bool false)
    have hl9 := (hO.block L (heap_lt Hl3.out) (by omega)).trans Hl3.out
    have hd9 := (hO.block W4.heap.size (heap_lt Hdf3.out) (by omega)).trans Hdf3.out
    generalize (W3.setCell ⟨w.heap.size, 0, none⟩ (.slice none 0 0)).setCell ⟨w.heap.size + 1, 0, none⟩ (.bool false) = W9 at *
    refine roundPost_retR HRL.out hl9 (.inr ⟨rfl, ?_⟩)
    have h10 : Only (· = L) W9 (W9.putObj L (.loop (RL .done (some .ret)))) := Only.putObj (A := (· = L)) W9 (b := L) rfl _
    have hB9 : Below w.heap.size w W9 := (HBw4.out.trans (HB3.out.mono (by omega))).trans (hO.below (by have := HB3.out.size; omega) (fun k e => by omega))
    exact ⟨HN.out, World.putObj_heap_same (heap_lt hl9), (h10.block _ (heap_lt hd9) (by omega)).trans hd9, hB9.trans (h10.below (by have := hB9.size; omega) (fun k e => by omega)), h10.blk hb4n (by omega), h10.blk hb5n (by omega)⟩
  case hend =>
    rw [hT]
    rintro e W6 ⟨⟨v, rfl⟩, hJ | hZ⟩
    · obtain rfl : T = [] := List.eq_nil_of_length_eq_zero hJ.k0
      refine ⟨⟨v, rfl⟩, .ready, none, by simp, hJ.lp, ?_⟩
      have hlt := heap_lt hJ.lp
      have h7 : Only (· = W4.heap.size + 1) W6 (W6.putObj (W4.heap.size + 1) (.loop (RL .exhausted none))) := Only.putObj (A := (· = W4.heap.size + 1)) _ (b := W4.heap.size + 1) rfl _
      show Exit.inBlock 0 _ Exit.normal _ (W6.putObj (W4.heap.size + 1) (.loop (RL .exhausted none)))
      generalize W6.putObj (W4.heap.size + 1) (.loop (RL .exhausted none)) = W7 at *
      have hs7 := h7.size
      have hz6 := hJ.b.size
      have hB47 : Below W4.heap.size W4 W7 := hJ.b.trans (h7.below (by omega) (fun k e => by omega))
      have hD7 : W7.heap[W4.heap.size]? = some (.deferred (some [])) := (h7.block _ (by omega) (by omega)).trans hJ.df
      have HB47 := Lib.hid hB47
      have HD7 := Lib.hid hD7
      have HBw7 := Lib.hid (HBw4.out.trans (hB47.mono (by omega)))
      have hz47 := hB47.size
      have hlt47 := heap_lt hD7
      clear hJ h7 hB47 hD7 hJ0 hlt
      go_wp2_with fail
      refine own_any lx hx x _ W7 (Sl.below Hxr.out Row1.loc HBw7.out hhx) (by omega) (by omega) _ (fun W8 v8 hB8 ho8 => ?_)
      obtain ⟨p8, q8, rfl⟩ := Own.slice ho8
      have hz8 := hB8.size
      have hB48 := HB47.out.trans (hB8.mono (by omega))
      have hb48 := Hb44.out.below hB48 (by omega)
      have hb58 := Hb54.out.below hB48 (by omega)
      have hD8 := (hB8.block _ (heap_lt HD7.out)).trans HD7.out
      have c4 := hb48.cells.c1
      have f4 := hb48.free 0
      have c5 := hb58.cells.c1
      have f5 := hb58.free 0
      have HBw8 := Lib.hid (HBw7.out.trans (hB8.mono (by omega)))
      have Hb48 := Lib.hid hb48
      have Hb58 := Lib.hid hb58
      have HD8 := Lib.hid hD8
      have Ho8 := Lib.hid ho8
      clear hB8 ho8 hB48 hb48 hb58 hD8
      go_wp2_with fail
      have hO : Only (fun z => z = w.heap.size ∨ z = w.heap.size + 1) W8 ((W8.setCell ⟨w.heap.size, 0, none⟩ (.slice p8 x.length q8)).setCell ⟨w.heap.size + 1, 0, none⟩ (.bool true)) := (Only.setCell (A := fun z => z = w.heap.size ∨ z = w.heap.size + 1) W8 (p := ⟨w.heap.size, 0, none⟩) (.inl rfl) _).trans (Only.setCell _ (p := ⟨w.heap.size + 1, 0, none⟩) (.inr rfl) _)
      have hb4n : Blk ((W8.setCell ⟨w.heap.size, 0, none⟩ (.slice p8 x.length q8)).setCell ⟨w.heap.size + 1, 0, none⟩ (.bool true)) w.heap.size [.slice p8 x.length q8] 42 := (Hb48.out.set 0 (.slice p8 x.length q8)).other (by show w.heap.size ≠ w.heap.size + 1; omega) _
      have hb5n : Blk ((W8.setCell ⟨w.heap.size, 0, none⟩ (.slice p8 x.length q8)).setCell ⟨w.heap.size + 1, 0, none⟩ (.bool true)) (w.heap.size + 1) [.bool true] 4 := (Hb58.out.other (p := ⟨w.heap.size, 0, none⟩) (by show w.heap.size + 1 ≠ w.heap.size; omega) _).set 0 (.bool true)
      have hd9 := (hO.block W4.heap.size (heap_lt HD8.out) (by omega)).trans HD8.out
      have ho9 := Own.same Ho8.out (fun g e => hO.block g (Own.lt Ho8.out g e).2 (by have := (Own.lt Ho8.out g e).1; omega))
      generalize (W8.setCell ⟨w.heap.size, 0, none⟩ (.slice p8 x.length q8)).setCell ⟨w.heap.size + 1, 0, none⟩ (.bool true) = W9 at *
      have hB9 : Below w.heap.size w W9 := HBw8.out.trans (hO.below (by have := HBw8.out.size; omega) (fun k e => by omega))
      have h10 : Only (· = W4.heap.size) W9 (W9.putObj W4.heap.size (.deferred none)) := Only.putObj (A := (· = W4.heap.size)) W9 (b := W4.heap.size) rfl _
      have hr := HR.out (W9.putObj W4.heap.size (.deferred none)) _ (hB9.trans (h10.below (by have := hB9.size; omega) (fun k e => by omega))) (fun _ => Own.lower (Own.same ho9 (fun g e => h10.block g (Own.lt ho9 g e).2 (fun e2 => by have := (Own.lt ho9 g e).1; omega))) (by omega)) ⟨_, _, _, rfl⟩
      refine ⟨by simp, .inl ⟨_, _, rfl, run_takeDeferred hd9, ?_⟩⟩
      exact ⟨_, results_cells rfl rfl rfl ((h10.blk hb4n (by omega)).cells.runVar1 (fun _ => by kernel_rfl)) ((h10.blk hb5n (by omega)).cells.runVar1 (fun _ => by kernel_rfl)), fin hr rfl⟩
    · obtain ⟨hne, hl6, hd6, hB6, hb46, hb56⟩ := hZ
      have hTe : T.isEmpty = false := by
        cases T with
        | nil => exact absurd rfl hne
        | cons a r => rfl
      rw [hTe] at HR
      refine ⟨⟨v, rfl⟩, .done, some .ret, by simp, hl6, ?_⟩
      have hlt := heap_lt hl6
      have h7 : Only (· = W4.heap.size + 1) W6 (W6.putObj (W4.heap.size + 1) (.loop (RL .exhausted (some .ret)))) := Only.putObj (A := (· = W4.heap.size + 1)) _ (b := W4.heap.size + 1) rfl _
      dsimp only
      generalize W6.putObj (W4.heap.size + 1) (.loop (RL .exhausted (some .ret))) = W7 at *
      have hd7 : W7.heap[W4.heap.size]? = some (.deferred (some [])) := (h7.block _ (by omega) (by omega)).trans hd6
      have hB7 := hB6.trans (h7.below (by have := hB6.size; omega) (fun k e => by omega))
      have hb47 := h7.blk hb46 (by omega)
      have hb57 := h7.blk hb56 (by omega)
      have h10 : Only (· = W4.heap.size) W7 (W7.putObj W4.heap.size (.deferred none)) := Only.putObj (A := (· = W4.heap.size)) W7 (b := W4.heap.size) rfl _
      have hr := HR.out (W7.putObj W4.heap.size (.deferred none)) (.slice none 0 0) (hB7.trans (h10.below (by have := hB7.size; omega) (fun k e => by omega))) (fun e => by cases e) ⟨_, _, _, rfl⟩
      have Hd7 := Lib.hid hd7
      have Hr := Lib.hid hr
      have H4 := Lib.hid ((h10.blk hb47 (by omega)).cells.runVar1 (P := Try.prog) (t := 42) (fun _ => by kernel_rfl))
      have H5 := Lib.hid ((h10.blk hb57 (by omega)).cells.runVar1 (P := Try.prog) (t := 4) (fun _ => by kernel_rfl))
      clear hne hl6 hd6 hB6 hb46 hb56 h7 hd7 hB7 hb47 hb57 h10 hr hTe hlt hJ0
      go_wp2_with fail
      refine ⟨by simp, .inl ⟨_, _, rfl, run_takeDeferred Hd7.out, ?_⟩⟩
      exact ⟨_, results_cells rfl rfl rfl H4.out H5.out, fin Hr.out rfl⟩
end Go.Proofs.Ytpncblagjkbemaa
end

/- Without. (Printed by mef.py.) -/
section
set_option linter.unusedVariables false
set_option linter.unusedSimpArgs false
namespace Go.Proofs.Ytpncblagjkbemaa
open Go.RowKit
set_option linter.unusedVariables false
set_option linter.unusedSimpArgs false

theorem placeI_mem {l : List S} {c : S} (h : c ∈ l) : 0 ≤ placeI l c := by
  by_cases hp : 0 ≤ placeI l c
  · exact hp
  · exfalso
    obtain ⟨k, hk, rfl⟩ := List.getElem_of_mem h
    have key : ∀ n, ∀ k (hk : k < l.length), k ≤ n → 0 ≤ placeI l l[k] := by
      intro n
      induction n with
      | zero =>
        intro k hk h0
        obtain rfl : k = 0 := by omega
        rw [placeI_hit (k := 0) hk rfl (fun i hi => absurd hi (Nat.not_lt_zero _))]
        omega
      | succ n ih =>
        intro k hk hkn
        by_cases hex : ∃ i, i < k ∧ l.getD i [] = l[k]
        · obtain ⟨i, hik, he⟩ := hex
          rw [getDS l _ i (by omega)] at he
          rw [← he]
          exact ih i (by omega) (by omega)
        · rw [placeI_hit (k := k) hk rfl (fun i hi e => hex ⟨i, hi, e⟩)]
          omega
    exact hp (key k k hk (Nat.le_refl _))
theorem within_sub {cols of : List S} (h : ∀ c ∈ cols, c ∈ of) : withinB cols of = true := by
  unfold withinB
  rw [List.all_eq_true]
  exact fun c hc => decide_eq_true (placeI_mem (h c hc))
theorem within_all (a b : List S) : withinB (commonC a b ++ restC a b) b = true :=
  within_sub (fun c hc => (List.mem_append.1 hc).elim (fun h => (List.mem_filter.1 h).1) (fun h => (List.mem_filter.1 h).1))
theorem within_common (a b : List S) : withinB (commonC a b) a = true := by
  unfold withinB
  rw [List.all_eq_true]
  exact fun c hc => (List.mem_filter.1 hc).2
theorem common_len (a b : List S) : (commonC a b).length ≤ b.length := List.length_filter_le _ _
theorem rest_len (a b : List S) : (restC a b).length ≤ b.length := List.length_filter_le _ _
theorem places_append (a b of : List S) : placesL (a ++ b) of = placesL a of ++ placesL b of := List.map_append
theorem pick_append (x : List V) (p q : List Int) : pickL x (p ++ q) = pickL x p ++ pickL x q := List.map_append
theorem pick_len' (x : List V) (cols rc : List S) : (pickL x (placesL cols rc)).length = cols.length := by unfold pickL placesL; simp
theorem pick_take (ac bc : List S) (y : List V) : (pickL y (placesL (commonC ac bc ++ restC ac bc) bc)).take (commonC ac bc).length = pickL y (placesL (commonC ac bc) bc) := by
  rw [places_append, pick_append]
  have e : (pickL y (placesL (commonC ac bc) bc)).length = (commonC ac bc).length := pick_len' _ _ _
  rw [← e, List.take_left]
/-- Do rows agree? -/
def agreeR (ac bc : List S) (x y : List V) : Bool := cmpR (pickL y (placesL (commonC ac bc) bc)) (pickL x (placesL (commonC ac bc) ac)) == 0
def withoutL (ac : List S) (la : List (List V)) (bc : List S) (lb : List (List V)) : List (List V) := la.filter fun x => !(lb.any fun y => agreeR ac bc x y)
def woErr (ac : List S) (la : List (List V)) (bc : List S) (lb : List (List V)) : Int := if mayRel ac la && mayRel bc lb then madeErr ac (withoutL ac la bc lb) else 2
theorem agree_none {ac bc : List S} {lb ys : List (List V)} (hp : ys.Perm (lb.map fun y => pickL y (placesL (commonC ac bc ++ restC ac bc) bc))) (x : List V) :
    (agreeL ys (pickL x (placesL (commonC ac bc) ac))).isEmpty = !(lb.any fun y => agreeR ac bc x y) := by
  have hl : (pickL x (placesL (commonC ac bc) ac)).length = (commonC ac bc).length := pick_len' _ _ _
  rw [Bool.eq_iff_iff, List.isEmpty_iff, Bool.not_eq_true', List.any_eq_false]
  unfold agreeL
  rw [List.filter_eq_nil_iff, hl]
  constructor
  · intro h y hy
    have h1 := h _ (hp.mem_iff.2 (List.mem_map.2 ⟨y, hy, rfl⟩))
    rw [pick_take] at h1
    exact h1
  · intro h z hz
    obtain ⟨y, hy, rfl⟩ := List.mem_map.1 (hp.mem_iff.1 hz)
    rw [pick_take]
    exact h y hy
theorem filter_fm {α : Type} (p : α → Bool) (l : List α) : l.filterMap (fun x => if p x then some x else none) = l.filter p := by
  induction l with
  | nil => rfl
  | cons a r ih =>
    rw [List.filterMap_cons, List.filter_cons]
    cases p a <;> simp [ih]
set_option maxRecDepth 100000 in
set_option maxHeartbeats 4000000 in
theorem Without_any (lca hca lra hra lcb hcb lrb hrb : Nat) (ac bc : List S) (pa pb : Option Addr) (ca cb : Nat) (la lb : List (List V)) (lva lvb : Value) (w : World) (ha : Strs lca hca w (.slice pa ac.length ca) ac) (hha : hca ≤ w.heap.size) (hla : Rws lra hra w lva la) (hhla : hra ≤ w.heap.size) (hb : Strs lcb hcb w (.slice pb bc.length cb) bc) (hhb : hcb ≤ w.heap.size) (hlb : Rws lrb hrb w lvb lb) (hhlb : hrb ≤ w.heap.size) (R : Ending → World → Prop)
    (hR : ∀ w' cv2 lv2 hs, Below w.heap.size w w' → OwnT w.heap.size w' cv2 (okL (woErr ac la bc lb) ac) → OwnR w.heap.size w' lv2 hs (okL (woErr ac la bc lb) (relCanon (withoutL ac la bc lb))) → R (.returned (.tuple #[.agg #[cv2, lv2], .int .i64 (woErr ac la bc lb)])) w') :
    Calls Try.prog 45 #[.agg #[.slice pa ac.length ca, lva], .agg #[.slice pb bc.length cb, lvb]] w R := by
  have HR := Lib.hid hR
  have Ha := Lib.hid ha
  have Hb := Lib.hid hb
  have Hla := Lib.hid hla
  have Hlb := Lib.hid hlb
  obtain ⟨av, av2, rfl, -, -, -, -⟩ := hla.form
  obtain ⟨bv, bv2, rfl, -, -, -, -⟩ := hlb.form
  have hal63 := ha.len
  have hbl63 := hb.len
  clear hR ha hb hla hlb
  obtain ⟨wa, ewa⟩ : ∃ x, x = w.alloc (.cells #[.slice pa ac.length ca, .slice av la.length av2] 34) := ⟨_, rfl⟩
  obtain ⟨wb, ewb⟩ : ∃ x, x = wa.alloc (.cells #[.slice pb bc.length cb, .slice bv lb.length bv2] 34) := ⟨_, rfl⟩
  obtain ⟨w2, ew2⟩ : ∃ x, x = wb.alloc (.cells #[.slice none 0 0, .slice none 0 0] 34) := ⟨_, rfl⟩
  have sa : wa.heap.size = w.heap.size + 1 := by rw [ewa]; simp
  have sb : wb.heap.size = w.heap.size + 1 + 1 := by rw [ewb]; simp [sa]
  have hBa : Below w.heap.size w wa := by rw [ewa]; exact alloc_below _ _
  have hBb : Below wa.heap.size wa wb := by rw [ewb]; exact alloc_below _ _
  have hBc : Below wb.heap.size wb w2 := by rw [ew2]; exact alloc_below _ _
  have hb1 : Blk wa w.heap.size [.slice pa ac.length ca, .slice av la.length av2] 34 := by rw [ewa]; exact Blk.new w [.slice pa ac.length ca, .slice av la.length av2] _ rfl
  have hb2 : Blk wb (w.heap.size + 1) [.slice pb bc.length cb, .slice bv lb.length bv2] 34 := by rw [ewb]; exact Blk.new wa [.slice pb bc.length cb, .slice bv lb.length bv2] _ sa.symm
  have hb3 : Blk w2 (w.heap.size + 1 + 1) [.slice none 0 0, .slice none 0 0] 34 := by rw [ew2]; exact Blk.new wb [.slice none 0 0, .slice none 0 0] _ sb.symm
  have hb1 := (hb1.below hBb hb1.lt).below hBc (by omega)
  have hb2 := hb2.below hBc hb2.lt
  have hB := hBa.trans ((hBb.mono hBa.size).trans (hBc.mono (by omega)))
  go_enter Try.func45, Try.ntmps45
  go_upto_region 1 with fail
  rw [← ewa, ← ewb, ← ew2]
  clear ewa ewb ew2 hBa hBb hBc sa sb
  have HB := Lib.hid hB
  have Hb1 := Lib.hid hb1
  have Hb2 := Lib.hid hb2
  have Hb3 := Lib.hid hb3
  have hz2 := hB.size
  have hl3 := hb3.lt
  clear hb1 hb2 hb3 hB
  have Ha2 := Lib.hid (Sl.below Ha.out Strs.loc HB.out hha)
  have Hb2c := Lib.hid (Sl.below Hb.out Strs.loc HB.out hhb)
  have Hla2 := Lib.hid (Sl.below Hla.out rowE_loc HB.out hhla)
  have Hlb2 := Lib.hid (Sl.below Hlb.out rowE_loc HB.out hhlb)
  clear Ha Hb Hla Hlb
  have HA2 : Hid (Below w2.heap.size w2 w2) := Lib.hid (Below.refl _ _)
  obtain ⟨c0, c1⟩ := Hb1.out.cells.c2
  simp only [Nat.zero_add] at c1
  go_wp2_with fail
  refine May_any lra hra lca hca ac _ _ la _ w2 Ha2.out (by omega) Hla2.out (by omega) _ (fun w5 hB5 => ?_)
  have hz5 := hB5.size
  have HA5 := Lib.hid hB5
  clear hB5 c0 c1
  cases hm : mayRel ac la
  · have hbE := Hb3.out.below HA5.out hl3
    obtain ⟨e0, e1⟩ := hbE.cells.c2
    have f0 := hbE.free 0
    have f1 := hbE.free 1
    simp only [Nat.zero_add] at e1
    have he : woErr ac la bc lb = 2 := by unfold woErr; rw [hm]; rfl
    obtain ⟨t1, t2, t3, t4⟩ := relTail (pc := none) (pr := none) (qc := 0) (qr := 0) hbE (show w.heap.size ≤ w.heap.size + 1 + 1 by omega) (HB.out.trans (Below.mono HA5.out hz2)) (Own.nil _ _ _ _ _) (OwnR.nil _ _)
    have hr := HR.out _ _ _ [] t1 (by rw [he]; exact t2) (by rw [he]; exact t3)
    rw [he] at hr
    have Hr := Lib.hid hr
    have Ht := Lib.hid t4
    clear hm hbE hr t1 t2 t3 t4 he
    go_wp2_with fail
    exact ret_cell_tmp rfl rfl Ht.out rfl rfl Hr.out
  have Hm := Lib.hid hm
  clear hm
  obtain ⟨c0, c1⟩ := (Hb2.out.below HA5.out (by omega)).cells.c2
  simp only [Nat.zero_add] at c1
  go_wp2_with fail
  refine May_any lrb hrb lcb hcb bc _ _ lb _ w5 (Sl.below Hb2c.out Strs.loc HA5.out (by omega)) (by omega) (Sl.below Hlb2.out rowE_loc HA5.out (by omega)) (by omega) _ (fun w6 hB6 => ?_)
  have hz6 := hB6.size
  have HA6 := Lib.hid (HA5.out.trans (hB6.mono (by omega)))
  clear hB6 c0 c1
  cases hm : mayRel bc lb
  · have hbE := Hb3.out.below HA6.out hl3
    obtain ⟨e0, e1⟩ := hbE.cells.c2
    have f0 := hbE.free 0
    have f1 := hbE.free 1
    simp only [Nat.zero_add] at e1
    have he : woErr ac la bc lb = 2 := by unfold woErr; rw [hm, Hm.out]; rfl
    obtain ⟨t1, t2, t3, t4⟩ := relTail (pc := none) (pr := none) (qc := 0) (qr := 0) hbE (show w.heap.size ≤ w.heap.size + 1 + 1 by omega) (HB.out.trans (Below.mono HA6.out hz2)) (Own.nil _ _ _ _ _) (OwnR.nil _ _)
    have hr := HR.out _ _ _ [] t1 (by rw [he]; exact t2) (by rw [he]; exact t3)
    rw [he] at hr
    have Hr := Lib.hid hr
    have Ht := Lib.hid t4
    clear hm hbE hr t1 t2 t3 t4 he
    go_wp2_with fail
    exact ret_cell_tmp rfl rfl Ht.out rfl rfl Hr.out
  have Hmb := Lib.hid hm
  have he : woErr ac la bc lb = madeErr ac (withoutL ac la bc lb) := by unfold woErr; rw [Hm.out, hm]; rfl
  rw [he] at HR
  clear he hm
  have hmla := (may_many Hm.out).1
  have hmlb := (may_many Hmb.out).1
  have hmca := (may_many Hm.out).2
  have hmcb := (may_many Hmb.out).2
  have hccl := common_len ac bc
  have hrcl := rest_len ac bc
  obtain ⟨c0, c1⟩ := (Hb1.out.below HA6.out (by omega)).cells.c2
  obtain ⟨d0, d1⟩ := (Hb2.out.below HA6.out (by omega)).cells.c2
  simp only [Nat.zero_add] at c1 d1
  go_wp2_with fail
  refine both_any lca hca lcb hcb ac bc _ _ _ _ _ _ _ _ _ _ w6 (Sl.below Ha2.out Strs.loc HA6.out (by omega)) (by omega) (Sl.below Hb2c.out Strs.loc HA6.out (by omega)) (by omega) (by omega) _ (fun w7 v4 v5 hB7 h4 h5 => ?_)
  have HB67 := Lib.hid hB7
  have hz7 := hB7.size
  have HA7 := Lib.hid (HA6.out.trans (hB7.mono (by omega)))
  have H4 := Lib.hid (OwnT.sl h4)
  have H5 := Lib.hid (OwnT.sl h5)
  obtain ⟨p4, q4, rfl⟩ := Own.slice h4
  obtain ⟨p5, q5, rfl⟩ := Own.slice h5
  clear hB7 h4 h5 c0 c1 d0 d1
  obtain ⟨c0, c1⟩ := (Hb1.out.below HA7.out (by omega)).cells.c2
  simp only [Nat.zero_add] at c1
  go_wp2_with fail
  refine placesK_any w6.heap.size w7.heap.size lca hca (commonC ac bc) ac _ _ w7 H4.out (by omega) (Sl.below Ha2.out Strs.loc HA7.out (by omega)) (by omega) (by omega) _ (fun w8 v8 ks hB8 ho8 hks => ?_)
  obtain rfl := hks (within_common ac bc)
  rw [within_common ac bc]
  obtain ⟨p8, q8, rfl⟩ := Own.slice ho8
  have HB78 := Lib.hid hB8
  have hz8 := hB8.size
  have HA8 := Lib.hid (HA7.out.trans (hB8.mono (by omega)))
  have Ho8 := Lib.hid (OwnI.sl ho8)
  have Hpl : Hid ((placesL (commonC ac bc) ac).length = (commonC ac bc).length) := Lib.hid (by unfold placesL; simp)
  clear hB8 ho8 hks c0 c1
  go_upto_region 5 with fail
  have hBa := alloc_below w8 (.cells #[.slice p8 (placesL (commonC ac bc) ac).length q8] 84)
  have hba := Blk.new w8 [.slice p8 (placesL (commonC ac bc) ac).length q8] 84 rfl
  generalize w8.alloc (.cells #[.slice p8 (placesL (commonC ac bc) ac).length q8] 84) = w9 at *
  have HB89 := Lib.hid hBa
  have Hbt := Lib.hid hba
  have hz9 := hBa.size
  have hlbt := hba.lt
  have HA9 := Lib.hid (HA8.out.trans (hBa.mono (by omega)))
  have HB79 := Lib.hid (HB78.out.trans (hBa.mono (by omega)))
  clear hBa hba
  obtain ⟨d0, d1⟩ := (Hb2.out.below HA9.out (by omega)).cells.c2
  simp only [Nat.zero_add] at d1
  go_wp2_with fail
  refine sorted_any lrb hrb lcb hcb w6.heap.size w7.heap.size w6.heap.size w7.heap.size bc _ _ lb _ (commonC ac bc) (restC ac bc) _ _ w9 (Sl.below Hb2c.out Strs.loc HA9.out (by omega)) (by omega) (Sl.below Hlb2.out rowE_loc HA9.out (by omega)) (by omega) (Sl.below H4.out Strs.loc HB79.out (Nat.le_refl _)) (by omega) (Sl.below H5.out Strs.loc HB79.out (Nat.le_refl _)) (by omega) Hmb.out (within_all ac bc) (by omega) (by omega) _ (fun w10 v10 hs10 ys hB10 hR10 hperm hsort => ?_)
  obtain ⟨p10, q10, e10⟩ := Own.slice hR10.own
  rw [hR10.len] at e10
  subst e10
  have HB9_10 := Lib.hid hB10
  have hz10 := hB10.size
  have HA10 := Lib.hid (HA9.out.trans (hB10.mono (by omega)))
  have HR10 := Lib.hid (OwnR.rws hR10)
  have Hperm := Lib.hid hperm
  have Hsort : Hid (ys.Pairwise fun a b => 0 ≤ cmpR b a) := Lib.hid (hsort.imp (fun {a b} h => by omega))
  have hyl : ys.length = lb.length := by rw [hperm.length_eq, List.length_map]
  have Hyl := Lib.hid hyl
  clear hB10 hR10 hperm hsort hyl d0 d1
  go_upto_region 6 with fail
  have hBa := alloc_below w10 (.cells #[.slice p10 ys.length q10] 32)
  have hba := Blk.new w10 [.slice p10 ys.length q10] 32 rfl
  generalize w10.alloc (.cells #[.slice p10 ys.length q10] 32) = w11 at *
  have HB10_11 := Lib.hid hBa
  have Hbl := Lib.hid hba
  have hz11 := hBa.size
  have hlbl := hba.lt
  have HA11 := Lib.hid (HA10.out.trans (hBa.mono (by omega)))
  have HB9_11 := Lib.hid (HB9_10.out.trans (hBa.mono (by omega)))
  have HB8_11 := Lib.hid (HB89.out.trans (HB9_11.out.mono (by omega)))
  clear hBa hba
  have Hb17 := Lib.hid (Hb1.out.below HA11.out (by omega))
  have Hb37 := Lib.hid (Hb3.out.below HA11.out hl3)
  have hl17 : w.heap.size < w11.heap.size := by omega
  have hl37 : w.heap.size + 1 + 1 < w11.heap.size := by omega
  have hS0 : Only (fun z => z = w.heap.size + 1 + 1 ∨ w11.heap.size ≤ z) w11 w11.drew := Only.drew _
  refine wp_region_held_drew (S := fun w' => Only (fun z => z = w.heap.size + 1 + 1 ∨ w11.heap.size ≤ z) w11 w') (by kernel_rfl) hS0 (fun hHeld => ?_)
  refine wpAnyH_take (i := 0) (v := .pointer (some ⟨w.heap.size, 0, none⟩)) rfl (by kernel_rfl) (by kernel_rfl) (by kernel_rfl) (fun _ _ _ h => h) (Or.inl ⟨by rfl, ?_⟩) hHeld ?_
  · intro w' hSw; go_simp
  try simp only [Act.put, List.getElem_toArray, List.getElem_cons_succ, List.getElem_cons_zero, List.setIfInBounds_toArray, List.set_cons_zero, List.set_cons_succ]
  refine wpAnyH_take (i := 1) (v := .slice pa ac.length ca) rfl (by kernel_rfl) (by kernel_rfl) (by kernel_rfl) (fun _ _ _ h => h) (Or.inl ⟨by rfl, ?_⟩) hHeld ?_
  · intro w' hSw; obtain ⟨z0, z1⟩ := (hSw.blk Hb17.out (by omega)).cells.c2; simp only [Nat.zero_add] at z1; go_simp
  try simp only [Act.put, List.getElem_toArray, List.getElem_cons_succ, List.getElem_cons_zero, List.setIfInBounds_toArray, List.set_cons_zero, List.set_cons_succ]
  refine wpAnyH_take (i := 2) (v := .pointer (some ⟨w.heap.size, 1, none⟩)) rfl (by kernel_rfl) (by kernel_rfl) (by kernel_rfl) (fun _ _ _ h => h) (Or.inl ⟨by rfl, ?_⟩) hHeld ?_
  · intro w' hSw; go_simp
  try simp only [Act.put, List.getElem_toArray, List.getElem_cons_succ, List.getElem_cons_zero, List.setIfInBounds_toArray, List.set_cons_zero, List.set_cons_succ]
  refine wpAnyH_take (i := 3) (v := .slice av la.length av2) rfl (by kernel_rfl) (by kernel_rfl) (by kernel_rfl) (fun _ _ _ h => h) (Or.inl ⟨by rfl, ?_⟩) hHeld ?_
  · intro w' hSw; obtain ⟨z0, z1⟩ := (hSw.blk Hb17.out (by omega)).cells.c2; simp only [Nat.zero_add] at z1; go_simp
  try simp only [Act.put, List.getElem_toArray, List.getElem_cons_succ, List.getElem_cons_zero, List.setIfInBounds_toArray, List.set_cons_zero, List.set_cons_succ]
  refine wpAnyH_take (i := 4) (v := .func (.func 92) #[] #[.pointer (some ⟨w10.heap.size, 0, none⟩), .pointer (some ⟨w8.heap.size, 0, none⟩)]) rfl (by kernel_rfl) (by kernel_rfl) (by kernel_rfl) (fun _ _ _ h => h) (Or.inl ⟨by rfl, ?_⟩) hHeld ?_
  · intro w' hSw; go_simp
  try simp only [Act.put, List.getElem_toArray, List.getElem_cons_succ, List.getElem_cons_zero, List.setIfInBounds_toArray, List.set_cons_zero, List.set_cons_succ]
  refine wpAnyH_ready (rs := [5]) (by kernel_rfl) (by simp) ?_
  refine allCall (f := 71) (args := #[.slice av la.length av2, .func (.func 92) #[] #[.pointer (some ⟨w10.heap.size, 0, none⟩), .pointer (some ⟨w8.heap.size, 0, none⟩)]]) rfl (by kernel_rfl) (by kernel_rfl) ?_ AllReadyH.nil
  have HAd : Hid (Below w2.heap.size w2 w11.drew) := Lib.hid HA11.out.drew
  refine gather_any lra hra la _ 92 #[.pointer (some ⟨w10.heap.size, 0, none⟩), .pointer (some ⟨w8.heap.size, 0, none⟩)] (fun x => if (agreeL ys (pickL x (placesL (commonC ac bc) ac))).isEmpty then some x else none) w11.drew (Sl.below Hla2.out rowE_loc HAd.out (by omega)) (by show hra ≤ w11.heap.size; omega) (by omega) (enters_of Try.func92 (by kernel_rfl) rfl) (fun k hk xv w' R' hB' hx' hR' => ?_) _ (fun w12 v12 hs12 hB12 h12 => ?_)
  · have hB'' : Below w11.heap.size w11 w' := ((Below.refl w11.heap.size w11).drew).trans hB'
    have hz' := hB''.size
    have hsome : ∀ x : List V, (if (agreeL ys (pickL x (placesL (commonC ac bc) ac))).isEmpty = true then some x else none).isSome = (agreeL ys (pickL x (placesL (commonC ac bc) ac))).isEmpty := fun x => by cases (agreeL ys (pickL x (placesL (commonC ac bc) ac))).isEmpty <;> rfl
    refine Without1_any w9.heap.size w10.heap.size w7.heap.size w8.heap.size lra hra w10.heap.size w8.heap.size ys p10 q10 (placesL (commonC ac bc) ac) _ la[k] xv w' (Sl.below HR10.out rowE_loc (HB10_11.out.trans (hB''.mono (by omega))) (Nat.le_refl _)) (by omega) (Sl.below Ho8.out Ints.loc (HB8_11.out.trans (hB''.mono (by omega))) (Nat.le_refl _)) (by omega) hx' (by omega) (Hbl.out.below hB'' hlbl) (Hbt.out.below (HB9_11.out.trans (hB''.mono (by omega))) hlbt) Hsort.out (fun y hy => by
        obtain ⟨z, hz, rfl⟩ := List.mem_map.1 (Hperm.out.mem_iff.1 hy)
        rw [Hpl.out, pick_len', List.length_append]; omega) (by rw [Hyl.out]; omega) (by rw [may_len Hm.out _ (List.getElem_mem hk)]; exact places_ok (within_common ac bc)) (by rw [Hpl.out]; omega) (by rw [may_len Hm.out _ (List.getElem_mem hk)]; omega) R' (fun w'' yv hBx hox hyv => ?_)
    have := hR' w'' yv hBx (fun hs => by
      rw [hsome] at hs
      have := hox hs
      simp only [hs, if_true, Option.getD_some]
      exact this) hyv
    rw [hsome] at this
    exact this
  rw [filter_fm] at h12
  have hfl : (la.filter fun x => (agreeL ys (pickL x (placesL (commonC ac bc) ac))).isEmpty) = withoutL ac la bc lb := by
    unfold withoutL
    congr 1
    funext x
    exact agree_none Hperm.out x
  rw [hfl] at h12
  obtain ⟨p12, q12, e12⟩ := Own.slice h12.own
  have hB11_12 : Below w11.heap.size w11 w12 := ((Below.refl _ _).drew).trans hB12
  have HB11_12 := Lib.hid hB11_12
  have hz12 := hB11_12.size
  have H12 : Hid (OwnR w11.heap.size w12 v12 hs12 (withoutL ac la bc lb)) := Lib.hid h12
  have hwl : (withoutL ac la bc lb).length ≤ la.length := List.length_filter_le _ _
  subst e12
  have hH2 : Only (fun z => z = w.heap.size + 1 + 1 ∨ w11.heap.size ≤ z) w11 w12 := Below.only hB11_12
  refine ⟨_, rfl, hH2, ?_⟩
  clear hHeld hB12 h12 hB11_12 hfl
  have hHeld := hH2
  clear hH2
  try simp only [Act.put, List.getElem_toArray, List.getElem_cons_succ, List.getElem_cons_zero, List.setIfInBounds_toArray, List.set_cons_zero, List.set_cons_succ]
  refine wpAnyH_ready (rs := [6]) (by kernel_rfl) (by simp) ?_
  refine allCall (f := 70) (args := #[.slice pa ac.length ca, .slice p12 hs12.length q12]) rfl (by kernel_rfl) (by kernel_rfl) ?_ AllReadyH.nil
  have HA12 := Lib.hid (HA11.out.trans (HB11_12.out.mono (by omega)))
  refine madeK_any w11.heap.size lca hca ac _ (withoutL ac la bc lb) _ _ w12 (Sl.below Ha2.out Strs.loc HA12.out (by omega)) (by omega) (by omega) H12.out (by omega) _ (fun w13 cv7 lv7 hs13 hB13 hz13 hT7 hO7 => ?_)
  generalize hE : madeErr ac (withoutL ac la bc lb) = err at *
  generalize okL err ac = oc at *
  generalize okL err (relCanon (withoutL ac la bc lb)) = ol at *
  obtain ⟨p7', q7', rfl⟩ := Own.slice hT7
  obtain ⟨p8', q8', e8⟩ := Own.slice hO7.own
  rw [hO7.len] at e8
  subst e8
  have hB11_13 : Below w11.heap.size w11 w13 := HB11_12.out.trans hB13
  have hb7 := Hb37.out.below hB11_13 hl37
  obtain ⟨e0, e1⟩ := hb7.cells.c2
  have f0 := hb7.free 0
  have f1 := hb7.free 1
  simp only [Nat.zero_add] at e1
  have hA13 := HA11.out.trans (hB11_13.mono (by omega))
  obtain ⟨t1, t2, t3, t4⟩ := relTail hb7 (show w.heap.size ≤ w.heap.size + 1 + 1 by omega) (HB.out.trans (hA13.mono hz2)) (Own.lower hT7 (by omega)) (hO7.lower (by omega))
  have hr := HR.out _ _ _ _ t1 t2 t3
  have Hr := Lib.hid hr
  have Ht := Lib.hid t4
  have hH2 : Only (fun z => z = w.heap.size + 1 + 1 ∨ w11.heap.size ≤ z) w11 w13 := Below.only hB11_13
  refine ⟨_, rfl, hH2, ?_⟩
  clear hHeld hr t1 t2 t3 t4 hb7 hB11_13 hT7 hO7 hB13 hA13
  have hHeld := hH2
  clear hH2
  try simp only [Act.put, List.getElem_toArray, List.getElem_cons_succ, List.getElem_cons_zero, List.setIfInBounds_toArray, List.set_cons_zero, List.set_cons_succ]
  refine wpAnyH_take (i := 7) (v := .agg #[.slice p7' oc.length q7', .slice p8' ol.length q8']) rfl (by kernel_rfl) (by kernel_rfl) (by kernel_rfl) (fun _ _ _ h => h) (Or.inl ⟨by rfl, ?_⟩) hHeld ?_
  · intro w' hSw; go_simp
  try simp only [Act.put, List.getElem_toArray, List.getElem_cons_succ, List.getElem_cons_zero, List.setIfInBounds_toArray, List.set_cons_zero, List.set_cons_succ]
  refine wpAnyH_take (i := 8) (v := .int .i64 err) rfl (by kernel_rfl) (by kernel_rfl) (by kernel_rfl) (fun _ _ _ h => h) (Or.inl ⟨by rfl, ?_⟩) hHeld ?_
  · intro w' hSw; go_simp
  try simp only [Act.put, List.getElem_toArray, List.getElem_cons_succ, List.getElem_cons_zero, List.setIfInBounds_toArray, List.set_cons_zero, List.set_cons_succ]
  have hHeld2 := (hHeld.trans (Only.setCell (A := fun z => z = w.heap.size + 1 + 1 ∨ w11.heap.size ≤ z) w13 (p := ⟨w.heap.size + 1 + 1, 0, none⟩) (.inl rfl) (.slice p7' oc.length q7'))).trans (Only.setCell (A := fun z => z = w.heap.size + 1 + 1 ∨ w11.heap.size ≤ z) _ (p := ⟨w.heap.size + 1 + 1, 1, none⟩) (.inl rfl) (.slice p8' ol.length q8'))
  refine wpAnyH_ready (rs := [9]) (by kernel_rfl) (by simp) ?_
  refine allSkip (w' := (w13.setCell ⟨w.heap.size + 1 + 1, 0, none⟩ (.slice p7' oc.length q7')).setCell ⟨w.heap.size + 1 + 1, 1, none⟩ (.slice p8' ol.length q8')) rfl (by kernel_rfl) ?_ hHeld2 ?_ AllReadyH.nil
  · go_simp
  try simp only [Act.put, List.getElem_toArray, List.getElem_cons_succ, List.getElem_cons_zero, List.setIfInBounds_toArray, List.set_cons_zero, List.set_cons_succ]
  clear hHeld
  have hHeld := hHeld2
  clear hHeld2
  refine wpAnyH_take (i := 10) (v := .int .i64 err) rfl (by kernel_rfl) (by kernel_rfl) (by kernel_rfl) (fun _ _ _ h => h) (Or.inl ⟨by rfl, ?_⟩) hHeld ?_
  · intro w' hSw; go_simp
  try simp only [Act.put, List.getElem_toArray, List.getElem_cons_succ, List.getElem_cons_zero, List.setIfInBounds_toArray, List.set_cons_zero, List.set_cons_succ]
  refine wpAnyH_done (by kernel_rfl) ?_ _
  clear hHeld
  go_wp2_with fail
  exact ret_cell_tmp rfl rfl Ht.out rfl rfl Hr.out
end Go.Proofs.Ytpncblagjkbemaa
end

/- The program's Select: what it asks may keep a state of its own. (Printed by rowse.py.) -/
section
set_option linter.unusedVariables false
set_option linter.unusedSimpArgs false
namespace Go.Proofs.Ytpncblagjkbemaa
open Go.RowKit
set_option linter.unusedVariables false
set_option linter.unusedSimpArgs false

theorem OwnR.keptOnly {A : Nat → Prop} {lo : Nat} {w w' : World} {v : Value} {hs : List Value} {xs : List (List V)} (h : OwnR lo w v hs xs) (hO : Only A w w') (hA : ∀ b, A b → b < lo) : OwnR lo w' v hs xs :=
  ⟨Own.same h.own (fun g e => hO.block g (Own.lt h.own g e).2 (fun a => by have := hA g a; have := (Own.lt h.own g e).1; omega)), h.len,
    fun i hi h2 => Own.same (h.row i hi h2) (fun g e => hO.block g (Own.lt (h.row i hi h2) g e).2 (fun a => by have := hA g a; have := (Own.lt (h.row i hi h2) g e).1; omega)), h.apart⟩
theorem Only.into2 {A A' : Nat → Prop} {w W W1 : World} (h1 : Only A w W) (h2 : Only A' W W1) (hA : ∀ b, b < w.heap.size → A' b → A b) : Only A w W1 :=
  ⟨h2.os.trans h1.os, h2.tape.trans h1.tape, h2.output.trans h1.output, Nat.le_trans h1.size h2.size, fun k hk hn => (h2.block k (Nat.lt_of_lt_of_le hk h1.size) (fun e => hn (hA k hk e))).trans (h1.block k hk hn)⟩
/-- First new blocks alone, then blocks of A'. -/
theorem Only.into {A A' : Nat → Prop} {B : Nat} {w W W1 : World} (h1 : Below B w W) (hB : B = w.heap.size) (h2 : Only A' W W1) (hA : ∀ b, b < w.heap.size → A' b → A b) : Only A w W1 := by
  subst hB
  exact ⟨h2.os.trans h1.os, h2.tape.trans h1.tape, h2.output.trans h1.output, Nat.le_trans h1.size h2.size, fun k hk hn => (h2.block k (Nat.lt_of_lt_of_le hk h1.size) (fun e => hn (hA k hk e))).trans (h1.block k hk)⟩
/-- The rows of which it is said so. -/
def keepL (keep : Nat → Bool) (l : List (List V)) : List (List V) := ((List.range l.length).filter keep).map fun i => l.getD i []
def keepTo (keep : Nat → Bool) (l : List (List V)) (k : Nat) : List (List V) := ((List.range k).filter keep).map fun i => l.getD i []
theorem keepTo_succ (keep : Nat → Bool) (l : List (List V)) (k : Nat) (h : k < l.length) : keepTo keep l (k + 1) = keepTo keep l k ++ (if keep k then [l[k]] else []) := by
  unfold keepTo
  rw [List.range_succ, List.filter_append, List.map_append, List.filter_cons, List.filter_nil]
  cases keep k
  · rfl
  · simp only [if_true, List.map_cons, List.map_nil]
    rw [getDS l _ k h]
theorem keepTo_len (keep : Nat → Bool) (l : List (List V)) (k : Nat) : (keepTo keep l k).length ≤ k := by
  unfold keepTo
  rw [List.length_map]
  exact Nat.le_trans (List.length_filter_le _ _) (by rw [List.length_range]; omega)
set_option maxRecDepth 100000 in
set_option maxHeartbeats 4000000 in
theorem gatherJ_any (lo hi : Nat) (l : List (List V)) (v : Value) (g : FuncId) (capt : Array Value) (keep : Nat → Bool) (A : Nat → Prop) (J : Nat → World → Prop) (w : World) (hv : Rws lo hi w v l) (hhi : hi ≤ w.heap.size) (hlen : l.length ≤ 5000000000000)
    (he : ∀ args w, (callFunc g args).run Try.prog w = .ok (.enter g args) w) (hA1 : ∀ b, A b → b < w.heap.size) (hA2 : ∀ b, A b → b < lo ∨ hi ≤ b) (hJ0 : J 0 w) (hJB : ∀ k w1 w2, J k w1 → Below w.heap.size w1 w2 → w.heap.size ≤ w1.heap.size → J k w2)
    (hq : ∀ k (hk : k < l.length) xv w' R, J k w' → w.heap.size ≤ w'.heap.size → Row1 lo hi w' xv l[k] → (∀ w'' yv, J (k + 1) w'' → Only A w' w'' → (keep k = true → OwnV w'.heap.size w'' yv l[k]) → (∃ a m c, yv = .slice a m c) → R (.returned (.tuple #[yv, .bool (keep k)])) w'') →
      Calls Try.prog g (#[xv] ++ capt) w' R)
    (R : Ending → World → Prop) (hR : ∀ w' v' hs, Only A w w' → J l.length w' → OwnR w.heap.size w' v' hs (keepL keep l) → R (.returned v') w') : Calls Try.prog 71 #[v, .func (.func g) #[] capt] w R := by
  have HR := Lib.hid hR
  have Hv := Lib.hid hv
  have Hq := Lib.hid hq
  have HA1 := Lib.hid hA1
  have HA2 := Lib.hid hA2
  have HJB := Lib.hid hJB
  have HJ0 := Lib.hid hJ0
  obtain ⟨av, cv, rfl, hcl, hcm, -, -⟩ := hv.form
  have hl63 := hv.len
  clear hR hv hq hA1 hA2 hJB hJ0
  go_enter Try.func71, Try.ntmps71
  go_wp2_with fail
  go_loopw [5, 12] (fun t5 t12 wr => ∃ (k : Nat) (hs : List Value), k ≤ l.length ∧ t12 = .int .i64 k ∧ OwnR w.heap.size wr t5 hs (keepTo keep l k) ∧ J k wr ∧ Only A w wr) (fun _ t12 _ => l.length - (intOf t12).toNat)
  case atStart => exact ⟨0, [], Nat.zero_le _, rfl, OwnR.nil _ _, HJ0.out, Only.refl _ _⟩
  case round =>
    obtain ⟨k, hs, hk, rfl, ho, hJ, hO⟩ := hrel
    obtain ⟨wo, ewo⟩ : ∃ x, x = wr := ⟨_, rfl⟩
    subst ewo
    have Ho := Lib.hid ho
    have HJ := Lib.hid hJ
    have HO := Lib.hid hO
    have hz := hO.size
    have kk0 : (0 : Int) ≤ (k : Int) := by omega
    obtain ⟨po, co, hpo⟩ := Own.slice ho.own
    have hsl : hs.length ≤ k := by rw [ho.len]; exact keepTo_len _ _ _
    clear ho hJ hO
    by_cases hlt : k < l.length
    · obtain ⟨b, off, rfl, hb, hrow⟩ := Rws.at (Sl.agree Hv.out rowE_loc (HO.out.agree hhi HA2.out)) (by omega) (by omega)
      obtain ⟨ax, cx, g2, r2⟩ := hrow k hlt
      have g0 := g2 wo (Below.refl _ _)
      have kkl : (k : Int) < (l.length : Int) := by omega
      have Hsv := Lib.hid r2
      have Hst := Lib.hid (keepTo_succ keep l k hlt)
      have Hq1 := Lib.hid (Hq.out k hlt)
      clear hrow g2 r2
      generalize l[k] = x at *
      subst hpo
      go_wp2_with fail
      refine Hq1.out _ wo _ HJ.out hz Hsv.out (fun w2 yv hJ2 hO2 hy hys => ?_)
      have HO2 := Lib.hid (HO.out.trans hO2)
      have Ho2 := Lib.hid (Ho.out.keptOnly hO2 HA1.out)
      have HJ2 := Lib.hid hJ2
      have hz2 := hO2.size
      obtain ⟨ya, ym, yc, rfl⟩ := hys
      cases hf : keep k with
      | false =>
        have Hn : Hid (keepTo keep l (k + 1) = keepTo keep l k) := Lib.hid (by rw [Hst.out, hf]; simp)
        simp only [hf]
        clear hy hf hO2 hJ2
        go_wp2_with fail
        go_roundw
        case rel => exact ⟨k + 1, hs, by omega, by go_num, by rw [Hn.out]; exact Ho2.out, HJ2.out, HO2.out⟩
        case measure => simp [intOf]; omega
      | true =>
        have Hn : Hid (keepTo keep l (k + 1) = keepTo keep l k ++ [x]) := Lib.hid (by rw [Hst.out, hf]; simp)
        have hoy : OwnV wo.heap.size w2 (.slice ya ym yc) x := hy hf
        simp only [hf]
        have hya : ∀ q, (Value.slice ya ym yc).ownBlock = some q → (Value.slice po hs.length co).ownBlock ≠ some q := fun q hq2 e => by
          have h1 := (Own.lt hoy q hq2).1
          have h2 := (Own.lt Ho.out.own q e).2
          omega
        obtain ⟨v3, w3, hr3, ho3, ha3⟩ := appH1 Ho2.out.own ya ym yc rfl (by omega) (by omega)
        have HO3 := Lib.hid (Ho2.out.snoc (Own.lower hoy hz) hya ho3 ha3)
        have hB23 := ha3.below (B := w.heap.size) (by omega) (fun q e => (Own.lt Ho.out.own q e).1)
        have HJ3 := Lib.hid (HJB.out _ _ _ HJ2.out hB23 (by omega))
        have HOn : Hid (Only A w w3) := Lib.hid ⟨hB23.os.trans HO2.out.os, hB23.tape.trans HO2.out.tape, hB23.output.trans HO2.out.output, Nat.le_trans HO2.out.size hB23.size, fun q hq hn => (hB23.block q hq).trans (HO2.out.block q hq hn)⟩
        clear hy hf hO2 hJ2 hoy ho3 ha3 hya hB23
        go_wp2_with (at_builtin; refine AtApp.of ?_)
        refine AtApp.go hr3 rfl rfl rfl rfl ?_
        go_wp2_with fail
        go_roundw
        case rel => exact ⟨k + 1, _, by omega, by go_num, by rw [Hn.out]; exact HO3.out, HJ3.out, HOn.out⟩
        case measure => simp [intOf]; omega
    · obtain rfl : k = l.length := by omega
      have hr := HR.out wo _ hs HO.out HJ.out Ho.out
      subst hpo
      go_wp2_with fail
      first | exact hr | exact fin hr rfl
set_option maxRecDepth 100000 in
set_option maxHeartbeats 4000000 in
theorem Select1_any (lo hi bS B : Nat) (x : List V) (vx : Value) (h : FuncId) (capt : Array Value) (q : Bool) (A : Nat → Prop) (J0 J1 : World → Prop) (w : World) (hx : Row1 lo hi w vx x) (hhi : hi ≤ w.heap.size) (hlen : x.length ≤ 4000000000000) (hbS : bS < B) (hbA : ¬ A bS) (hBw : B ≤ w.heap.size)
    (hb : ∀ w', J0 w' → Blk w' bS [.func (.func h) #[] capt] 61) (he : ∀ args w, (callFunc h args).run Try.prog w = .ok (.enter h args) w) (hA1 : ∀ b, A b → b < B) (hA2 : ∀ b, A b → b < lo ∨ hi ≤ b) (hJ0 : J0 w) (hJB0 : ∀ w1 w2, J0 w1 → Below B w1 w2 → B ≤ w1.heap.size → J0 w2) (hJB1 : ∀ w1 w2, J1 w1 → Below B w1 w2 → B ≤ w1.heap.size → J1 w2)
    (hu : ∀ zlo zv w' R, J0 w' → B ≤ zlo → zlo ≤ w'.heap.size → OwnV zlo w' zv x → (∀ w'', J1 w'' → Only (fun b => A b ∨ zv.ownBlock = some b) w' w'' → R (.returned (.bool q)) w'') → Calls Try.prog h (#[zv] ++ capt) w' R)
    (R : Ending → World → Prop) (hR : ∀ w'' yv, J1 w'' → Only A w w'' → OwnV w.heap.size w'' yv x → R (.returned (.tuple #[yv, .bool q])) w'') : Calls Try.prog 80 #[vx, .pointer (some ⟨bS, 0, none⟩)] w R := by
  have HR := Lib.hid hR
  have Hx := Lib.hid hx
  have Hb := Lib.hid hb
  have HA1 := Lib.hid hA1
  have HA2 := Lib.hid hA2
  have HJ0 := Lib.hid hJ0
  have HJB0 := Lib.hid hJB0
  have HJB1 := Lib.hid hJB1
  have Hu := Lib.hid hu
  obtain ⟨ax, cx, rfl, -, -, -, -⟩ := hx.form
  clear hR hx hb hA1 hA2 hJ0 hJB0 hJB1 hu
  go_enter Try.func80, Try.ntmps80
  go_upto_region 1 with fail
  have hS0 : Only A w w.drew := Only.drew _
  have hw0 : Below w.heap.size w w.drew := (Below.refl _ _).drew
  have W0 : Hid (Below w.heap.size w w.drew) := Lib.hid hw0
  have HJd := Lib.hid (HJB0.out _ _ HJ0.out (hw0.mono hBw) hBw)
  have hz0 : w.heap.size ≤ w.drew.heap.size := Nat.le_refl _
  clear hw0
  refine wp_region_held_drew (S := fun w' => Only A w w') (by kernel_rfl) hS0 (fun hHeld => ?_)
  have OD : Hid (Only A w w.drew) := Lib.hid hS0
  have Hfn : Hid (∀ w', Only A w w' → Blk w' bS [.func (.func h) #[] capt] 61) := Lib.hid (fun w' hO => hO.blk (Hb.out w HJ0.out) (fun a => hbA a))
  refine wpAnyH_take (i := 0) (v := .slice ax x.length cx) rfl (by kernel_rfl) (by kernel_rfl) (by kernel_rfl) (fun _ _ _ h => h) (Or.inl ⟨by rfl, ?_⟩) hHeld ?_
  · intro w' hSw; go_simp
  try simp only [Act.put, List.getElem_toArray, List.getElem_cons_succ, List.getElem_cons_zero, List.setIfInBounds_toArray, List.set_cons_zero, List.set_cons_succ]
  refine wpAnyH_take (i := 2) (v := .func (.func h) #[] capt) rfl (by kernel_rfl) (by kernel_rfl) (by kernel_rfl) (fun _ _ _ h => h) (Or.inl ⟨by rfl, ?_⟩) hHeld ?_
  · intro w' hSw; have kx := (Hfn.out w' hSw).cells.c1; go_simp
  try simp only [Act.put, List.getElem_toArray, List.getElem_cons_succ, List.getElem_cons_zero, List.setIfInBounds_toArray, List.set_cons_zero, List.set_cons_succ]
  refine wpAnyH_take (i := 3) (v := .slice ax x.length cx) rfl (by kernel_rfl) (by kernel_rfl) (by kernel_rfl) (fun _ _ _ h => h) (Or.inl ⟨by rfl, ?_⟩) hHeld ?_
  · intro w' hSw; go_simp
  try simp only [Act.put, List.getElem_toArray, List.getElem_cons_succ, List.getElem_cons_zero, List.setIfInBounds_toArray, List.set_cons_zero, List.set_cons_succ]
  refine wpAnyH_ready (rs := [1]) (by kernel_rfl) (by simp) ?_
  refine allCall (f := 81) (args := #[.slice ax x.length cx]) rfl (by kernel_rfl) (by kernel_rfl) ?_ AllReadyH.nil
  have hzo1 := OD.out.size
  refine CloneRow_any lo hi x _ w.drew (Sl.agree Hx.out Row1.loc (OD.out.agree hhi HA2.out)) (by omega) hlen _ (fun wc1 vc1 hB ho => ?_)
  obtain ⟨pc1, qc1, rfl⟩ := Own.slice ho
  have hzn1 := hB.size
  have O1 := Lib.hid (OD.out.trans (Below.only (A := A) hB))
  have J1 := Lib.hid (HJB0.out _ _ HJd.out (hB.mono (by omega)) (by omega))
  have Y1 : Hid (OwnV w.heap.size wc1 (.slice pc1 x.length qc1) x) := Lib.hid (Own.lower ho (by omega))
  clear hB ho hHeld
  refine ⟨_, rfl, O1.out, ?_⟩
  have hHeld := O1.out
  try simp only [Act.put, List.getElem_toArray, List.getElem_cons_succ, List.getElem_cons_zero, List.setIfInBounds_toArray, List.set_cons_zero, List.set_cons_succ]
  refine wpAnyH_ready (rs := [4]) (by kernel_rfl) (by simp) ?_
  refine allCall (f := 81) (args := #[.slice ax x.length cx]) rfl (by kernel_rfl) (by kernel_rfl) ?_ AllReadyH.nil
  have hzo2 := O1.out.size
  refine CloneRow_any lo hi x _ wc1 (Sl.agree Hx.out Row1.loc (O1.out.agree hhi HA2.out)) (by omega) hlen _ (fun wc2 vc2 hB ho => ?_)
  obtain ⟨pc2, qc2, rfl⟩ := Own.slice ho
  have hzn2 := hB.size
  have O2 := Lib.hid (O1.out.trans (Below.only (A := A) hB))
  have J2 := Lib.hid (HJB0.out _ _ J1.out (hB.mono (by omega)) (by omega))
  have HYZ : Hid (∀ k, (Value.slice pc2 x.length qc2).ownBlock = some k → (Value.slice pc1 x.length qc1).ownBlock ≠ some k) := Lib.hid (fun k e e2 => by have h1 := (Own.lt ho k e).1; have h2 := (Own.lt Y1.out k e2).2; omega)
  have Y2 := Lib.hid (Own.kept Y1.out hB)
  have Z2 : Hid (OwnV w.heap.size wc2 (.slice pc2 x.length qc2) x) := Lib.hid (Own.lower ho (by omega))
  clear hB ho hHeld
  refine ⟨_, rfl, O2.out, ?_⟩
  have hHeld := O2.out
  try simp only [Act.put, List.getElem_toArray, List.getElem_cons_succ, List.getElem_cons_zero, List.setIfInBounds_toArray, List.set_cons_zero, List.set_cons_succ]
  refine wpAnyH_ready (rs := [5]) (by kernel_rfl) (by simp) ?_
  refine allCall (f := h) (args := #[.slice pc2 x.length qc2] ++ capt) rfl (by kernel_rfl) (by go_simp) ?_ AllReadyH.nil
  have hzo3 := O2.out.size
  refine Hu.out w.heap.size _ wc2 _ J2.out hBw hzo3 Z2.out (fun wc3 hJ1 hO1 => ?_)
  have O3 := Lib.hid (Only.into2 O2.out hO1 (fun b hb h => h.elim id (fun e => absurd (Own.lt Z2.out b e).1 (by omega))))
  have J3 := Lib.hid hJ1
  have Y3 : Hid (OwnV w.heap.size wc3 (.slice pc1 x.length qc1) x) := Lib.hid (Own.same Y2.out (fun g e => hO1.block g (Own.lt Y2.out g e).2 (fun h => h.elim (fun a => absurd (HA1.out g a) (by have := (Own.lt Y2.out g e).1; omega)) (fun e2 => HYZ.out g e2 e))))
  clear hO1 hJ1 hHeld
  refine ⟨_, rfl, O3.out, ?_⟩
  have hHeld := O3.out
  try simp only [Act.put, List.getElem_toArray, List.getElem_cons_succ, List.getElem_cons_zero, List.setIfInBounds_toArray, List.set_cons_zero, List.set_cons_succ]
  refine wpAnyH_take (i := 6) (v := .slice pc1 x.length qc1) rfl (by kernel_rfl) (by kernel_rfl) (by kernel_rfl) (fun _ _ _ h => h) (Or.inl ⟨by rfl, ?_⟩) hHeld ?_
  · intro w' hSw; go_simp
  try simp only [Act.put, List.getElem_toArray, List.getElem_cons_succ, List.getElem_cons_zero, List.setIfInBounds_toArray, List.set_cons_zero, List.set_cons_succ]
  refine wpAnyH_take (i := 7) (v := .bool q) rfl (by kernel_rfl) (by kernel_rfl) (by kernel_rfl) (fun _ _ _ h => h) (Or.inl ⟨by rfl, ?_⟩) hHeld ?_
  · intro w' hSw; go_simp
  try simp only [Act.put, List.getElem_toArray, List.getElem_cons_succ, List.getElem_cons_zero, List.setIfInBounds_toArray, List.set_cons_zero, List.set_cons_succ]
  refine wpAnyH_done (by kernel_rfl) ?_ _
  clear hHeld
  have hr := HR.out wc3 _ J3.out O3.out Y3.out
  go_wp2_with fail
  first | exact hr | exact fin hr rfl
end Go.Proofs.Ytpncblagjkbemaa
end
