/- RowsAgain holds outright: for any two relations the call returns true, and the arguments read behind it as before. No condition. -/
import Derived.Test.YtpncblagjkbemaaKRowsAgain5
/- The law's told on answers that are alike. (Printed by rowr.py.) -/
section
set_option linter.unusedVariables false
set_option linter.unusedSimpArgs false
namespace Go.Proofs.Ytpncblagjkbemaa
open Go.RowKit
set_option linter.unusedVariables false
set_option linter.unusedSimpArgs false

/-- The blocks that are written over. -/
def TB (ca : Value) (hs : List Value) (b : Nat) : Prop := ca.ownBlock = some b ∨ ∃ h ∈ hs, h.ownBlock = some b
/-- What the walk over a's rows and columns keeps. -/
structure ToldIn (lo hi : Nat) (w wr : World) (hs : List Value) (ns : List Nat) (la ca : Value) (nc : Nat) : Prop where
  own : OwnH lo wr la hs
  len : hs.length = ns.length
  row : ∀ i (h : i < hs.length) (h2 : i < ns.length), Shp 24 3 lo hi wr hs[i] ns[i]
  col : Shp 9 1 lo hi wr ca nc
  box : Blk wr hi [ca, la] 34
  bel : Below lo w wr
  only : Only (TB ca hs) w wr
theorem ToldIn.set {lo hi : Nat} {w wr : World} {hs : List Value} {ns : List Nat} {la ca : Value} {nc : Nat} (h : ToldIn lo hi w wr hs ns la ca nc) {b i : Nat} (u : Value) (h1 : lo ≤ b) (h2 : b < hi) (h3 : la.ownBlock ≠ some b) (h4 : TB ca hs b) : ToldIn lo hi w (wr.setCell ⟨b, i, none⟩ u) hs ns la ca nc :=
  ⟨Own.setOther h.own h3 u, h.len, fun k hk h2 => (h.row k hk h2).setCell b i u, h.col.setCell b i u, h.box.other (by show hi ≠ b; omega) u, h.bel.setCell (p := ⟨b, i, none⟩) h1 u, h.only.trans (Only.setCell wr (p := ⟨b, i, none⟩) h4 u)⟩
set_option maxRecDepth 100000 in
set_option maxHeartbeats 2000000 in
theorem toldO_any (lo lo2 hi2 lc2 hc2 : Nat) (cols : List S) (l : List (List V)) (hs : List Value) (ca cb la lb : Value) (e : Int) (w : World) (hlo : lo ≤ w.heap.size) (hca : OwnT lo w ca cols) (hcb : Strs lc2 hc2 w cb cols) (hla : OwnR lo w la hs l) (hlb : Rws lo2 hi2 w lb l) (h2 : hc2 ≤ w.heap.size) (h4 : hi2 ≤ w.heap.size) (hrs : ∀ x ∈ l, ∀ a ∈ x, a.s.length ≤ 9223372036854775807) (R : Ending → World → Prop)
    (hR : ∀ w', Below lo w w' → Only (TB ca hs) w w' → R (.returned (.bool true)) w') : Calls Try.prog 28 #[.agg #[ca, la], .int .i64 e, .agg #[cb, lb], .int .i64 e] w R := by
  have HR := Lib.hid hR
  have OCa := Lib.hid hca
  have OLa := Lib.hid hla
  have HCa := Lib.hid (OwnT.sl hca)
  have HCb := Lib.hid hcb
  have HLa := Lib.hid (OwnR.rws hla)
  have HLb := Lib.hid hlb
  have Hrs := Lib.hid hrs
  obtain ⟨aca, cca, rfl⟩ := Own.slice hca
  obtain ⟨acb, ccb, rfl, -, -, -, -⟩ := hcb.form
  obtain ⟨ala, cla, rfl, -, -, -, -⟩ := (OwnR.rws hla).form
  obtain ⟨alb, clb, rfl, -, -, -, -⟩ := hlb.form
  clear hR hca hcb hla hlb hrs
  go_enter Try.func28, Try.ntmps28
  go_upto_region 1 with fail
  obtain ⟨w0, hw0⟩ : ∃ w0, w0 = (w.alloc (.cells #[.slice aca cols.length cca, .slice ala l.length cla] 34)).alloc (.cells #[.slice acb cols.length ccb, .slice alb l.length clb] 53) := ⟨_, rfl⟩
  have s1 : (w.alloc (.cells #[.slice aca cols.length cca, .slice ala l.length cla] 34)).heap.size = w.heap.size + 1 := Array.size_push _
  have hB0 : Below w.heap.size w w0 := by
    rw [hw0]
    exact (alloc_below w _).alloc (by rw [s1]; omega) _
  have hz0 : w.heap.size + 1 < w0.heap.size := by
    rw [hw0]
    show _ < (Array.push _ _).size
    rw [Array.size_push, s1]; omega
  have hb1 : Blk w0 w.heap.size [.slice aca cols.length cca, .slice ala l.length cla] 34 := by
    rw [hw0]
    exact (Blk.new w [.slice aca cols.length cca, .slice ala l.length cla] _ rfl).alloc _
  have hb2 : Blk w0 (w.heap.size + 1) [.slice acb cols.length ccb, .slice alb l.length clb] 53 := by
    rw [hw0]
    exact Blk.new _ [.slice acb cols.length ccb, .slice alb l.length clb] _ s1.symm
  rw [← hw0]
  clear hw0 s1
  have HB0 := Lib.hid hB0
  have HA := Lib.hid hb1
  have HBb := Lib.hid hb2
  have hb1l : w.heap.size < w0.heap.size := by omega
  clear hB0 hb1 hb2
  have hS0 : Below w0.heap.size w0 w0.drew := (Below.refl _ _).drew
  refine wp_region_held_drew (S := fun w' => Below w0.heap.size w0 w') (by kernel_rfl) hS0 (fun hHeld => ?_)
  refine wpAnyH_take (i := 0) (v := .int .i64 e) rfl (by kernel_rfl) (by kernel_rfl) (by kernel_rfl) (fun _ _ _ h => h) (Or.inl ⟨by rfl, ?_⟩) hHeld ?_
  · intro w' hSw; go_simp
  try simp only [Act.put, List.getElem_toArray, List.getElem_cons_succ, List.getElem_cons_zero, List.setIfInBounds_toArray, List.set_cons_zero, List.set_cons_succ]
  refine wpAnyH_take (i := 1) (v := .int .i64 e) rfl (by kernel_rfl) (by kernel_rfl) (by kernel_rfl) (fun _ _ _ h => h) (Or.inl ⟨by rfl, ?_⟩) hHeld ?_
  · intro w' hSw; go_simp
  try simp only [Act.put, List.getElem_toArray, List.getElem_cons_succ, List.getElem_cons_zero, List.setIfInBounds_toArray, List.set_cons_zero, List.set_cons_succ]
  refine wpAnyH_take (i := 2) (v := .bool true) rfl (by kernel_rfl) (by kernel_rfl) (by kernel_rfl) (fun _ _ _ h => h) (Or.inl ⟨by rfl, ?_⟩) hHeld ?_
  · intro w' hSw; go_simp
  try simp only [Act.put, List.getElem_toArray, List.getElem_cons_succ, List.getElem_cons_zero, List.setIfInBounds_toArray, List.set_cons_zero, List.set_cons_succ]
  refine wpAnyH_take (i := 3) (v := .bool true) rfl (by kernel_rfl) (by kernel_rfl) (by kernel_rfl) (fun _ _ _ h => h) (Or.inl ⟨by rfl, ?_⟩) hHeld ?_
  · intro w' hSw; go_simp
  try simp only [Act.put, List.getElem_toArray, List.getElem_cons_succ, List.getElem_cons_zero, List.setIfInBounds_toArray, List.set_cons_zero, List.set_cons_succ]
  refine wpAnyH_take (i := 4) (v := .agg #[.slice aca cols.length cca, .slice ala l.length cla]) rfl (by kernel_rfl) (by kernel_rfl) (by kernel_rfl) (fun _ _ _ h => h) (Or.inl ⟨by rfl, ?_⟩) hHeld ?_
  · intro w' hSw; have kx := (HA.out.below hSw hb1l).cells.runVar (P := Try.prog) (t := 34) (fun _ => by kernel_rfl) (fun _ => by kernel_rfl); obtain ⟨z0, z1⟩ := (HA.out.below hSw hb1l).cells.c2; simp only [Nat.zero_add] at z1; go_simp
  try simp only [Act.put, List.getElem_toArray, List.getElem_cons_succ, List.getElem_cons_zero, List.setIfInBounds_toArray, List.set_cons_zero, List.set_cons_succ]
  refine wpAnyH_take (i := 6) (v := .agg #[.slice acb cols.length ccb, .slice alb l.length clb]) rfl (by kernel_rfl) (by kernel_rfl) (by kernel_rfl) (fun _ _ _ h => h) (Or.inl ⟨by rfl, ?_⟩) hHeld ?_
  · intro w' hSw; have kx := (HBb.out.below hSw hz0).cells.runVar (P := Try.prog) (t := 53) (fun _ => by kernel_rfl) (fun _ => by kernel_rfl); obtain ⟨z0, z1⟩ := (HBb.out.below hSw hz0).cells.c2; simp only [Nat.zero_add] at z1; go_simp
  try simp only [Act.put, List.getElem_toArray, List.getElem_cons_succ, List.getElem_cons_zero, List.setIfInBounds_toArray, List.set_cons_zero, List.set_cons_succ]
  refine wpAnyH_ready (rs := [5]) (by kernel_rfl) (by simp) ?_
  refine allCall (f := 32) (args := #[.agg #[.slice aca cols.length cca, .slice ala l.length cla]]) rfl (by kernel_rfl) (by kernel_rfl) ?_ AllReadyH.nil
  refine ref_any _ _ _ _ _ _ w0.drew _ (fun wq1 hB => ?_)
  refine ⟨_, rfl, hHeld.trans (hB.mono hHeld.size), ?_⟩
  have hHeld2 := hHeld.trans (hB.mono hHeld.size)
  clear hHeld
  have hHeld := hHeld2
  clear hHeld2
  clear hB
  try simp only [Act.put, List.getElem_toArray, List.getElem_cons_succ, List.getElem_cons_zero, List.setIfInBounds_toArray, List.set_cons_zero, List.set_cons_succ]
  refine wpAnyH_ready (rs := [7]) (by kernel_rfl) (by simp) ?_
  refine allCall (f := 56) (args := #[.agg #[.slice aca cols.length cca, .slice ala l.length cla], .agg #[.slice acb cols.length ccb, .slice alb l.length clb]]) rfl (by kernel_rfl) (by kernel_rfl) ?_ AllReadyH.nil
  refine Same_any lo w.heap.size lo2 hi2 lo w.heap.size lc2 hc2 cols l _ _ _ _ wq1 (Sl.below HCa.out Strs.loc (HB0.out.trans (hHeld.mono (by omega))) (Nat.le_refl _)) (Sl.below HCb.out Strs.loc (HB0.out.trans (hHeld.mono (by omega))) h2) (Sl.below HLa.out rowE_loc (HB0.out.trans (hHeld.mono (by omega))) (Nat.le_refl _)) (Sl.below HLb.out rowE_loc (HB0.out.trans (hHeld.mono (by omega))) h4) (by have := hHeld.size; omega) (by have := hHeld.size; omega) (by have := hHeld.size; omega) (by have := hHeld.size; omega) Hrs.out _ (fun wq2 hB => ?_)
  refine ⟨_, rfl, hHeld.trans (hB.mono hHeld.size), ?_⟩
  have hHeld2 := hHeld.trans (hB.mono hHeld.size)
  clear hHeld
  have hHeld := hHeld2
  clear hHeld2
  clear hB
  try simp only [Act.put, List.getElem_toArray, List.getElem_cons_succ, List.getElem_cons_zero, List.setIfInBounds_toArray, List.set_cons_zero, List.set_cons_succ]
  refine wpAnyH_take (i := 8) (v := .bool true) rfl (by kernel_rfl) (by kernel_rfl) (by kernel_rfl) (fun _ _ _ h => h) (Or.inl ⟨by rfl, ?_⟩) hHeld ?_
  · intro w' hSw; go_simp
  try simp only [Act.put, List.getElem_toArray, List.getElem_cons_succ, List.getElem_cons_zero, List.setIfInBounds_toArray, List.set_cons_zero, List.set_cons_succ]
  refine wpAnyH_take (i := 9) (v := .bool true) rfl (by kernel_rfl) (by kernel_rfl) (by kernel_rfl) (fun _ _ _ h => h) (Or.inl ⟨by rfl, ?_⟩) hHeld ?_
  · intro w' hSw; go_simp
  try simp only [Act.put, List.getElem_toArray, List.getElem_cons_succ, List.getElem_cons_zero, List.setIfInBounds_toArray, List.set_cons_zero, List.set_cons_succ]
  have HH2 := Lib.hid hHeld
  refine wpAnyH_done (by kernel_rfl) ?_ _
  clear hHeld
  have hBq := HB0.out.trans (HH2.out.mono (by omega))
  have T0 : ToldIn lo w.heap.size w wq2 hs (l.map List.length) (.slice ala l.length cla) (.slice aca cols.length cca) cols.length :=
    ⟨Own.kept OLa.out.own hBq, by rw [List.length_map]; exact OLa.out.len, fun i h h2 => by
      rw [List.getElem_map]
      exact (Shp.ofOwn (OLa.out.row i h (by simpa using h2))).below hBq (Nat.le_refl _), (Shp.ofOwn OCa.out).below hBq (Nat.le_refl _), HA.out.below HH2.out hb1l, hBq.mono hlo, Below.only hBq⟩
  have HT0 := Lib.hid T0
  obtain ⟨d0, d1⟩ := T0.box.cells.c2
  simp only [Nat.zero_add] at d1
  have hml := HLa.out.len
  have hql := HCa.out.len
  clear hBq T0
  go_wp2_with fail
  go_loopw [25] (fun t25 wr => ∃ k : Nat, k ≤ l.length ∧ t25 = .int .i64 k ∧ ToldIn lo w.heap.size w wr hs (l.map List.length) (.slice ala l.length cla) (.slice aca cols.length cca) cols.length) (fun t25 _ => l.length - (intOf t25).toNat)
  case atStart => exact ⟨0, Nat.zero_le _, rfl, HT0.out⟩
  case round =>
    clear d0 d1
    obtain ⟨k, hk, rfl, hT⟩ := hrel
    obtain ⟨wo, ewo⟩ : ∃ x, x = wr := ⟨_, rfl⟩
    subst ewo
    have HT := Lib.hid hT
    have kk0 : (0 : Int) ≤ (k : Int) := by omega
    obtain ⟨d0, d1⟩ := hT.box.cells.c2
    simp only [Nat.zero_add] at d1
    clear hT
    by_cases hlt : k < l.length
    · have kkl : (k : Int) < (l.length : Int) := by omega
      have hkh : k < hs.length := by rw [OLa.out.len]; exact hlt
      obtain ⟨ao', cap', e', -, -, -, hc⟩ := (OwnH.sl HT.out.own).form
      injection e' with e1 e2 e3
      subst e1 e3
      obtain ⟨b, off, rfl, hb1, hb2, hcc⟩ := hc k hkh
      clear hcc hc e2
      obtain ⟨p, cp, ep⟩ := Own.slice (OLa.out.row k hkh hlt)
      have hnl := (OwnV.sl (OLa.out.row k hkh hlt)).len
      have Htb : Hid (∀ q, (Value.slice p l[k].length cp).ownBlock = some q → TB (.slice aca cols.length cca) hs q) := Lib.hid (fun q hq => .inr ⟨hs[k], List.getElem_mem hkh, by rw [ep]; exact hq⟩)
      have Hap : Hid (∀ q, (Value.slice p l[k].length cp).ownBlock = some q → (Value.slice (some ⟨b, off, none⟩) l.length cla).ownBlock ≠ some q) := Lib.hid (by rw [← ep]; exact OLa.out.apart k hkh)
      have Hhead : Hid (∀ wr', ToldIn lo w.heap.size w wr' hs (l.map List.length) (.slice (some ⟨b, off, none⟩) l.length cla) (.slice aca cols.length cca) cols.length → wr'.cell? ⟨b, off + k, none⟩ = some (.slice p l[k].length cp)) := Lib.hid (fun wr' h => by
        obtain ⟨ao', cap', e', -, -, -, hc⟩ := (OwnH.sl h.own).form
        injection e' with e1 e2 e3
        obtain ⟨b', off', e4, -, -, hcc⟩ := hc k hkh
        rw [e4] at e1
        injection e1 with e1
        injection e1 with e5 e6
        subst e5 e6
        obtain ⟨cs, _, hcs, rfl⟩ := hcc k hkh
        have g0 := hcs.c1
        rw [Nat.mul_one, ep] at g0
        exact g0)
      have Hrow : Hid (∀ wr', ToldIn lo w.heap.size w wr' hs (l.map List.length) (.slice (some ⟨b, off, none⟩) l.length cla) (.slice aca cols.length cca) cols.length → Shp 24 3 lo w.heap.size wr' (.slice p l[k].length cp) l[k].length) := Lib.hid (fun wr' h => by
        have := h.row k hkh (by rw [List.length_map]; exact hlt)
        rw [List.getElem_map, ep] at this
        exact this)
      have g0 := Hhead.out _ HT.out
      clear ep
      generalize l[k].length = n at *
      go_wp2_with fail
      go_loopw [34] (fun t34 wr => ∃ j : Nat, j ≤ n ∧ t34 = .int .i64 j ∧ ToldIn lo w.heap.size w wr hs (l.map List.length) (.slice (some ⟨b, off, none⟩) l.length cla) (.slice aca cols.length cca) cols.length) (fun t34 _ => n - (intOf t34).toNat)
      case atStart => exact ⟨0, Nat.zero_le _, rfl, HT.out⟩
      case round =>
        clear d0 d1 g0 HT
        obtain ⟨j, hj, rfl, hT⟩ := hrel
        obtain ⟨wi, ewi⟩ : ∃ x, x = wr := ⟨_, rfl⟩
        subst ewi
        have HT := Lib.hid hT
        have jj0 : (0 : Int) ≤ (j : Int) := by omega
        obtain ⟨d0, d1⟩ := hT.box.cells.c2
        simp only [Nat.zero_add] at d1
        have g0 := Hhead.out _ hT
        clear hT
        by_cases hjt : j < n
        · have jjl : (j : Int) < (n : Int) := by omega
          obtain ⟨g, cap, ev, q1, q2, q3, q4, q5, q6⟩ := (Hrow.out _ HT.out).cell hjt
          injection ev with ev1 ev2 ev3
          subst ev1 ev3
          obtain ⟨u0, hu0⟩ := q5 0 (by omega)
          obtain ⟨u1, hu1⟩ := q5 1 (by omega)
          obtain ⟨u2, hu2⟩ := q5 2 (by omega)
          rw [Nat.add_zero] at hu0
          have hf0 := q6 (j * 3)
          have hf1 := q6 (j * 3 + 1)
          have hf2 := q6 (j * 3 + 2)
          have HTn := Lib.hid (((HT.out.set (b := g) (i := j * 3) (.int .i64 99) q1 q2 (Hap.out g rfl) (Htb.out g rfl)).set (b := g) (i := j * 3 + 1) (.int .i64 0) q1 q2 (Hap.out g rfl) (Htb.out g rfl)).set (b := g) (i := j * 3 + 2) (.string ⟨#[]⟩) q1 q2 (Hap.out g rfl) (Htb.out g rfl))
          clear q5 q6
          go_wp2_with fail
          go_roundw
          case rel => exact ⟨j + 1, by omega, by go_num, HTn.out⟩
          case measure => simp [intOf]; omega
        · obtain rfl : j = n := by omega
          have nln : ¬ ((j : Nat) : Int) < (j : Int) := by omega
          go_wp2_with fail
          go_roundw
          case rel => exact ⟨k + 1, by omega, by go_num, HT.out⟩
          case measure => simp [intOf]; omega
    · obtain rfl : k = l.length := by omega
      have llt : ¬ ((l.length : Nat) : Int) < (l.length : Int) := by omega
      go_wp2_with fail
      go_loopw [50] (fun t50 wr => ∃ k : Nat, k ≤ cols.length ∧ t50 = .int .i64 k ∧ ToldIn lo w.heap.size w wr hs (l.map List.length) (.slice ala l.length cla) (.slice aca cols.length cca) cols.length) (fun t50 _ => cols.length - (intOf t50).toNat)
      case atStart => exact ⟨0, Nat.zero_le _, rfl, HT.out⟩
      case round =>
        clear d0 d1 HT kk0
        obtain ⟨k, hk, rfl, hT⟩ := hrel
        obtain ⟨wo, ewo⟩ : ∃ x, x = wr := ⟨_, rfl⟩
        subst ewo
        have HT := Lib.hid hT
        have kk0 : (0 : Int) ≤ (k : Int) := by omega
        obtain ⟨d0, d1⟩ := hT.box.cells.c2
        simp only [Nat.zero_add] at d1
        clear hT
        by_cases hlt : k < cols.length
        · have kkl : (k : Int) < (cols.length : Int) := by omega
          obtain ⟨g, cap, ev, g1, g2, g3, g4, g5, g6⟩ := HT.out.col.cell hlt
          injection ev with ev1 ev2 ev3
          subst ev1 ev3
          obtain ⟨u, hu⟩ := g5 0 (by omega)
          rw [Nat.mul_one, Nat.add_zero] at hu
          have hfz := g6 k
          have HTn := Lib.hid (HT.out.set (b := g) (i := k) (.string ⟨#[115, 112, 111, 105, 108, 116]⟩) g1 g2 (fun e => Own.apartT OLa.out.own OCa.out (by decide) e rfl) (.inl rfl))
          clear g5 g6
          go_wp2_with fail
          go_roundw
          case rel => exact ⟨k + 1, by omega, by go_num, HTn.out⟩
          case measure => simp [intOf]; omega
        · obtain rfl : k = cols.length := by omega
          have llt : ¬ ((cols.length : Nat) : Int) < (cols.length : Int) := by omega
          have hr := HR.out _ HT.out.bel HT.out.only
          go_wp2_with fail
          first | exact hr | exact fin hr rfl
theorem told_any (lo lo2 hi2 lc2 hc2 : Nat) (cols : List S) (l : List (List V)) (hs : List Value) (ca cb la lb : Value) (e : Int) (w : World) (hlo : lo ≤ w.heap.size) (hca : OwnT lo w ca cols) (hcb : Strs lc2 hc2 w cb cols) (hla : OwnR lo w la hs l) (hlb : Rws lo2 hi2 w lb l) (h2 : hc2 ≤ w.heap.size) (h4 : hi2 ≤ w.heap.size) (hrs : ∀ x ∈ l, ∀ a ∈ x, a.s.length ≤ 9223372036854775807) (R : Ending → World → Prop)
    (hR : ∀ w', Below lo w w' → R (.returned (.bool true)) w') : Calls Try.prog 28 #[.agg #[ca, la], .int .i64 e, .agg #[cb, lb], .int .i64 e] w R :=
  toldO_any lo lo2 hi2 lc2 hc2 cols l hs ca cb la lb e w hlo hca hcb hla hlb h2 h4 hrs R (fun w' h _ => hR w' h)
/-- A block of relations is not written over. -/
theorem TB.not {lo : Nat} {w : World} {ca la : Value} {hs : List Value} {cols : List S} {l : List (List V)} (hT : OwnT lo w ca cols) (hR : OwnR lo w la hs l) {b : Nat} {cs : List Value} {t : TypeId} (hb : Blk w b cs t) (h1 : t ≠ 9) (h2 : t ≠ 24) : ¬ TB ca hs b := by
  rintro (h | ⟨h, hh, e⟩)
  · exact Own.ne_blk hT hb h1 h
  · obtain ⟨i, hi, rfl⟩ := List.getElem_of_mem hh
    exact Own.ne_blk (hR.row i hi (by rw [← hR.len]; exact hi)) hb h2 e
end Go.Proofs.Ytpncblagjkbemaa
end

/- The law RowsOf, walked. (Printed by rowt.py.) -/
section
set_option linter.unusedVariables false
set_option linter.unusedSimpArgs false
namespace Go.Proofs.Ytpncblagjkbemaa
open Go.RowKit
set_option linter.unusedVariables false
set_option linter.unusedSimpArgs false

theorem great_no {cols : List S} {l : List (List V)} (h : greatB cols l = false) : cols.length ≤ 60 ∧ l.length ≤ 150 ∧ ∀ x ∈ l, x.length ≤ 60 := by
  unfold greatB at h
  simp only [Bool.or_eq_false_iff, decide_eq_false_iff_not, List.any_eq_false, decide_eq_true_eq] at h
  exact ⟨by omega, by omega, fun x hx => by have := h.2 x hx; omega⟩
set_option maxRecDepth 100000 in
set_option maxHeartbeats 4000000 in
theorem RowsOf_any (lo hi lc hc : Nat) (cols : List S) (l : List (List V)) (cv lv : Value) (w : World) (hcols : Strs lc hc w cv cols) (hhc : hc ≤ w.heap.size) (hv : Rws lo hi w lv l) (hhi : hi ≤ w.heap.size) (hrs : ∀ x ∈ l, ∀ a ∈ x, a.s.length ≤ 9223372036854775807) (R : Ending → World → Prop)
    (hR : ∀ w', Below w.heap.size w w' → R (.returned (.bool true)) w') : Calls Try.prog 5 #[cv, lv] w R := by
  have HR := Lib.hid hR
  have Hv := Lib.hid hv
  have Hc := Lib.hid hcols
  have Hrs := Lib.hid hrs
  obtain ⟨ac, cc, rfl, -, -, -, -⟩ := hcols.form
  obtain ⟨av, cv2, rfl, -, -, -, -⟩ := hv.form
  clear hR hv hcols hrs
  go_enter Try.func5, Try.ntmps5
  go_wp2_with fail
  refine great_any lo hi cols ac cc l _ w Hv.out _ ?_
  cases hg : greatB cols l
  · obtain ⟨hcl, hll, hxl⟩ := great_no hg
    have Hxl := Lib.hid hxl
    clear hg hxl
    go_wp2_with fail
    refine lawOwn_any lo hi lc hc cols ac cc l _ w Hc.out hhc Hv.out hhi (by omega) (by omega) (fun x hx => by have := Hxl.out x hx; omega) _ (fun w1 cv3 lv3 hB1 hc3 hv3 => ?_)
    have HB1 := Lib.hid hB1
    have Hc3 := Lib.hid hc3
    have Hv3 := Lib.hid hv3
    obtain ⟨ac3, cc3, rfl, -, -, -, -⟩ := hc3.form
    obtain ⟨av3, cv4, rfl, -, -, -, -⟩ := hv3.form
    clear hB1 hc3 hv3
    go_upto_region 5 with fail
    have hBa := alloc_below w1 (.cells #[.slice ac3 cols.length cc3, .slice av3 l.length cv4] 34)
    have hba := Blk.new w1 [.slice ac3 cols.length cc3, .slice av3 l.length cv4] 34 rfl
    generalize w1.alloc (.cells #[.slice ac3 cols.length cc3, .slice av3 l.length cv4] 34) = w2 at *
    have HBa := Lib.hid hBa
    have Hba := Lib.hid hba
    have hzw := HB1.out.size
    have hza := hBa.size
    have hbal := hba.lt
    clear hBa hba
    go_loopw [6] (fun t6 wr => ∃ k : Nat, 1 ≤ k ∧ k ≤ l.length + 1 ∧ t6 = .int .i64 k ∧ Below w2.heap.size w2 wr) (fun t6 _ => l.length + 1 - (intOf t6).toNat)
    case atStart => exact ⟨1, Nat.le_refl _, by omega, rfl, Below.refl _ _⟩
    case round =>
      obtain ⟨k, hk1, hk, rfl, hB⟩ := hrel
      obtain ⟨wo, ewo⟩ : ∃ x, x = wr := ⟨_, rfl⟩
      subst ewo
      have hz := hB.size
      have HB := Lib.hid hB
      have HBw := Lib.hid ((HB1.out.trans (HBa.out.mono hzw)).trans (hB.mono (by omega)))
      have hzo := HBw.out.size
      have kk0 : (0 : Int) ≤ (k : Int) := by omega
      have Hva := Lib.hid (Sl.below Hv3.out rowE_loc ((HBa.out.trans (HB.out.mono hza))) (Nat.le_refl _))
      have Hca := Lib.hid (Sl.below Hc3.out Strs.loc ((HBa.out.trans (HB.out.mono hza))) (Nat.le_refl _))
      have Hvl := Lib.hid (Sl.below Hv.out rowE_loc HBw.out hhi)
      have Hcl := Lib.hid (Sl.below Hc.out Strs.loc HBw.out hhc)
      have Hbo := Lib.hid (Hba.out.below HB.out hbal)
      clear hB
      by_cases hlt : k < l.length
      · have kkl : (k : Int) < (l.length : Int) := by omega
        obtain ⟨b3, o3, rfl, hb3, hrow3⟩ := Rws.at Hva.out (by omega) (by omega)
        obtain ⟨b4, o4, rfl, hb4, hrow4⟩ := Rws.at Hvl.out (by omega) (by omega)
        have hjl : k - 1 < l.length := by omega
        have kjl : (k : Int) - 1 < (l.length : Int) := by omega
        obtain ⟨j, ej⟩ : ∃ j, j = k - 1 := ⟨_, rfl⟩
        have hkj : (k : Int) - 1 = (j : Int) := by omega
        have jj0 : (0 : Int) ≤ (j : Int) := by omega
        have jjl : (j : Int) < (l.length : Int) := by omega
        obtain ⟨p1, c1, g1, r1⟩ := hrow3 j (by omega)
        obtain ⟨p2, c2, g2, r2⟩ := hrow3 k hlt
        obtain ⟨p3, c3, g3, r3⟩ := hrow4 j (by omega)
        obtain ⟨p4, c4, g4, r4⟩ := hrow4 k hlt
        have G1 := Lib.hid g1
        have G2 := Lib.hid g2
        have G3 := Lib.hid g3
        have G4 := Lib.hid g4
        have R1 := Lib.hid r1
        have R2 := Lib.hid r2
        have R3 := Lib.hid r3
        have R4 := Lib.hid r4
        have M1 := Lib.hid (Hrs.out _ (List.getElem_mem (show j < l.length by omega)))
        have M2 := Lib.hid (Hrs.out _ (List.getElem_mem hlt))
        clear hrow3 hrow4 g1 g2 g3 g4 r1 r2 r3 r4 ej hjl kjl
        generalize l[j] = xa at *
        generalize l[k] = xb at *
        go_upto_region 7 with fail
        have hS0 : Below wo.heap.size wo wo.drew := (Below.refl _ _).drew
        refine wp_region_held_drew (S := fun w' => Below wo.heap.size wo w') (by kernel_rfl) hS0 (fun hHeld => ?_)
        refine wpAnyH_take (i := 0) (v := .pointer (some ⟨w1.heap.size, 1, none⟩)) rfl (by kernel_rfl) (by kernel_rfl) (by kernel_rfl) (fun _ _ _ h => h) (Or.inl ⟨by rfl, ?_⟩) hHeld ?_
        · intro w' hSw; go_simp
        try simp only [Act.put, List.getElem_toArray, List.getElem_cons_succ, List.getElem_cons_zero, List.setIfInBounds_toArray, List.set_cons_zero, List.set_cons_succ]
        refine wpAnyH_take (i := 1) (v := .slice (some ⟨b3, o3, none⟩) l.length cv4) rfl (by kernel_rfl) (by kernel_rfl) (by kernel_rfl) (fun _ _ _ h => h) (Or.inl ⟨by rfl, ?_⟩) hHeld ?_
        · intro w' hSw; obtain ⟨z0, z1⟩ := (Hbo.out.below hSw (by omega)).cells.c2; simp only [Nat.zero_add] at z1; go_simp
        try simp only [Act.put, List.getElem_toArray, List.getElem_cons_succ, List.getElem_cons_zero, List.setIfInBounds_toArray, List.set_cons_zero, List.set_cons_succ]
        refine wpAnyH_take (i := 2) (v := .int .i64 ((k : Int))) rfl (by kernel_rfl) (by kernel_rfl) (by kernel_rfl) (fun _ _ _ h => h) (Or.inl ⟨by rfl, ?_⟩) hHeld ?_
        · intro w' hSw; go_simp
        try simp only [Act.put, List.getElem_toArray, List.getElem_cons_succ, List.getElem_cons_zero, List.setIfInBounds_toArray, List.set_cons_zero, List.set_cons_succ]
        refine wpAnyH_take (i := 3) (v := .int .i64 ((j : Int))) rfl (by kernel_rfl) (by kernel_rfl) (by kernel_rfl) (fun _ _ _ h => h) (Or.inl ⟨by rfl, ?_⟩) hHeld ?_
        · intro w' hSw; go_simp; exact wrapOk jj0 (by omega)
        try simp only [Act.put, List.getElem_toArray, List.getElem_cons_succ, List.getElem_cons_zero, List.setIfInBounds_toArray, List.set_cons_zero, List.set_cons_succ]
        refine wpAnyH_take (i := 4) (v := .pointer (some ⟨b3, o3 + j, none⟩)) rfl (by kernel_rfl) (by kernel_rfl) (by kernel_rfl) (fun _ _ _ h => h) (Or.inl ⟨by rfl, ?_⟩) hHeld ?_
        · intro w' hSw; go_simp
        try simp only [Act.put, List.getElem_toArray, List.getElem_cons_succ, List.getElem_cons_zero, List.setIfInBounds_toArray, List.set_cons_zero, List.set_cons_succ]
        refine wpAnyH_take (i := 5) (v := .slice p1 xa.length c1) rfl (by kernel_rfl) (by kernel_rfl) (by kernel_rfl) (fun _ _ _ h => h) (Or.inl ⟨by rfl, ?_⟩) hHeld ?_
        · intro w' hSw; have kx := G1.out w' hSw; go_simp
        try simp only [Act.put, List.getElem_toArray, List.getElem_cons_succ, List.getElem_cons_zero, List.setIfInBounds_toArray, List.set_cons_zero, List.set_cons_succ]
        refine wpAnyH_take (i := 6) (v := .pointer (some ⟨w1.heap.size, 1, none⟩)) rfl (by kernel_rfl) (by kernel_rfl) (by kernel_rfl) (fun _ _ _ h => h) (Or.inl ⟨by rfl, ?_⟩) hHeld ?_
        · intro w' hSw; go_simp
        try simp only [Act.put, List.getElem_toArray, List.getElem_cons_succ, List.getElem_cons_zero, List.setIfInBounds_toArray, List.set_cons_zero, List.set_cons_succ]
        refine wpAnyH_take (i := 7) (v := .slice (some ⟨b3, o3, none⟩) l.length cv4) rfl (by kernel_rfl) (by kernel_rfl) (by kernel_rfl) (fun _ _ _ h => h) (Or.inl ⟨by rfl, ?_⟩) hHeld ?_
        · intro w' hSw; obtain ⟨z0, z1⟩ := (Hbo.out.below hSw (by omega)).cells.c2; simp only [Nat.zero_add] at z1; go_simp
        try simp only [Act.put, List.getElem_toArray, List.getElem_cons_succ, List.getElem_cons_zero, List.setIfInBounds_toArray, List.set_cons_zero, List.set_cons_succ]
        refine wpAnyH_take (i := 8) (v := .int .i64 ((k : Int))) rfl (by kernel_rfl) (by kernel_rfl) (by kernel_rfl) (fun _ _ _ h => h) (Or.inl ⟨by rfl, ?_⟩) hHeld ?_
        · intro w' hSw; go_simp
        try simp only [Act.put, List.getElem_toArray, List.getElem_cons_succ, List.getElem_cons_zero, List.setIfInBounds_toArray, List.set_cons_zero, List.set_cons_succ]
        refine wpAnyH_take (i := 9) (v := .pointer (some ⟨b3, o3 + k, none⟩)) rfl (by kernel_rfl) (by kernel_rfl) (by kernel_rfl) (fun _ _ _ h => h) (Or.inl ⟨by rfl, ?_⟩) hHeld ?_
        · intro w' hSw; go_simp
        try simp only [Act.put, List.getElem_toArray, List.getElem_cons_succ, List.getElem_cons_zero, List.setIfInBounds_toArray, List.set_cons_zero, List.set_cons_succ]
        refine wpAnyH_take (i := 10) (v := .slice p2 xb.length c2) rfl (by kernel_rfl) (by kernel_rfl) (by kernel_rfl) (fun _ _ _ h => h) (Or.inl ⟨by rfl, ?_⟩) hHeld ?_
        · intro w' hSw; have kx := G2.out w' hSw; go_simp
        try simp only [Act.put, List.getElem_toArray, List.getElem_cons_succ, List.getElem_cons_zero, List.setIfInBounds_toArray, List.set_cons_zero, List.set_cons_succ]
        refine wpAnyH_take (i := 12) (v := .slice (some ⟨b4, o4, none⟩) l.length cv2) rfl (by kernel_rfl) (by kernel_rfl) (by kernel_rfl) (fun _ _ _ h => h) (Or.inl ⟨by rfl, ?_⟩) hHeld ?_
        · intro w' hSw; go_simp
        try simp only [Act.put, List.getElem_toArray, List.getElem_cons_succ, List.getElem_cons_zero, List.setIfInBounds_toArray, List.set_cons_zero, List.set_cons_succ]
        refine wpAnyH_take (i := 13) (v := .int .i64 ((k : Int))) rfl (by kernel_rfl) (by kernel_rfl) (by kernel_rfl) (fun _ _ _ h => h) (Or.inl ⟨by rfl, ?_⟩) hHeld ?_
        · intro w' hSw; go_simp
        try simp only [Act.put, List.getElem_toArray, List.getElem_cons_succ, List.getElem_cons_zero, List.setIfInBounds_toArray, List.set_cons_zero, List.set_cons_succ]
        refine wpAnyH_take (i := 14) (v := .int .i64 ((j : Int))) rfl (by kernel_rfl) (by kernel_rfl) (by kernel_rfl) (fun _ _ _ h => h) (Or.inl ⟨by rfl, ?_⟩) hHeld ?_
        · intro w' hSw; go_simp; exact wrapOk jj0 (by omega)
        try simp only [Act.put, List.getElem_toArray, List.getElem_cons_succ, List.getElem_cons_zero, List.setIfInBounds_toArray, List.set_cons_zero, List.set_cons_succ]
        refine wpAnyH_take (i := 15) (v := .pointer (some ⟨b4, o4 + j, none⟩)) rfl (by kernel_rfl) (by kernel_rfl) (by kernel_rfl) (fun _ _ _ h => h) (Or.inl ⟨by rfl, ?_⟩) hHeld ?_
        · intro w' hSw; go_simp
        try simp only [Act.put, List.getElem_toArray, List.getElem_cons_succ, List.getElem_cons_zero, List.setIfInBounds_toArray, List.set_cons_zero, List.set_cons_succ]
        refine wpAnyH_take (i := 16) (v := .slice p3 xa.length c3) rfl (by kernel_rfl) (by kernel_rfl) (by kernel_rfl) (fun _ _ _ h => h) (Or.inl ⟨by rfl, ?_⟩) hHeld ?_
        · intro w' hSw; have kx := G3.out w' hSw; go_simp
        try simp only [Act.put, List.getElem_toArray, List.getElem_cons_succ, List.getElem_cons_zero, List.setIfInBounds_toArray, List.set_cons_zero, List.set_cons_succ]
        refine wpAnyH_take (i := 17) (v := .slice (some ⟨b4, o4, none⟩) l.length cv2) rfl (by kernel_rfl) (by kernel_rfl) (by kernel_rfl) (fun _ _ _ h => h) (Or.inl ⟨by rfl, ?_⟩) hHeld ?_
        · intro w' hSw; go_simp
        try simp only [Act.put, List.getElem_toArray, List.getElem_cons_succ, List.getElem_cons_zero, List.setIfInBounds_toArray, List.set_cons_zero, List.set_cons_succ]
        refine wpAnyH_take (i := 18) (v := .int .i64 ((k : Int))) rfl (by kernel_rfl) (by kernel_rfl) (by kernel_rfl) (fun _ _ _ h => h) (Or.inl ⟨by rfl, ?_⟩) hHeld ?_
        · intro w' hSw; go_simp
        try simp only [Act.put, List.getElem_toArray, List.getElem_cons_succ, List.getElem_cons_zero, List.setIfInBounds_toArray, List.set_cons_zero, List.set_cons_succ]
        refine wpAnyH_take (i := 19) (v := .pointer (some ⟨b4, o4 + k, none⟩)) rfl (by kernel_rfl) (by kernel_rfl) (by kernel_rfl) (fun _ _ _ h => h) (Or.inl ⟨by rfl, ?_⟩) hHeld ?_
        · intro w' hSw; go_simp
        try simp only [Act.put, List.getElem_toArray, List.getElem_cons_succ, List.getElem_cons_zero, List.setIfInBounds_toArray, List.set_cons_zero, List.set_cons_succ]
        refine wpAnyH_take (i := 20) (v := .slice p4 xb.length c4) rfl (by kernel_rfl) (by kernel_rfl) (by kernel_rfl) (fun _ _ _ h => h) (Or.inl ⟨by rfl, ?_⟩) hHeld ?_
        · intro w' hSw; have kx := G4.out w' hSw; go_simp
        try simp only [Act.put, List.getElem_toArray, List.getElem_cons_succ, List.getElem_cons_zero, List.setIfInBounds_toArray, List.set_cons_zero, List.set_cons_succ]
        refine wpAnyH_ready (rs := [11]) (by kernel_rfl) (by simp) ?_
        refine allCall (f := 24) (args := #[.slice p1 xa.length c1, .slice p2 xb.length c2]) rfl (by kernel_rfl) (by kernel_rfl) ?_ AllReadyH.nil
        refine rowsCompareB_any _ _ _ _ xa xb _ _ wo.drew (Sl.below R1.out Row1.loc hHeld (by omega)) (Sl.below R2.out Row1.loc hHeld (by omega)) (by have := hHeld.size; omega) (by have := hHeld.size; omega) _ (fun wq1 hB => ?_)
        refine ⟨_, rfl, hHeld.trans (hB.mono hHeld.size), ?_⟩
        have hHeld2 := hHeld.trans (hB.mono hHeld.size)
        clear hHeld
        have hHeld := hHeld2
        clear hHeld2
        clear hB
        try simp only [Act.put, List.getElem_toArray, List.getElem_cons_succ, List.getElem_cons_zero, List.setIfInBounds_toArray, List.set_cons_zero, List.set_cons_succ]
        refine wpAnyH_ready (rs := [21]) (by kernel_rfl) (by simp) ?_
        refine allCall (f := 25) (args := #[.slice p3 xa.length c3, .slice p4 xb.length c4]) rfl (by kernel_rfl) (by kernel_rfl) ?_ AllReadyH.nil
        refine refRowsCompare_any _ _ _ _ xa xb _ _ wq1 (Sl.below R3.out Row1.loc hHeld (by omega)) (Sl.below R4.out Row1.loc hHeld (by omega)) (by have := hHeld.size; omega) (by have := hHeld.size; omega) M1.out M2.out _ (fun wq2 hB => ?_)
        refine ⟨_, rfl, hHeld.trans (hB.mono hHeld.size), ?_⟩
        have hHeld2 := hHeld.trans (hB.mono hHeld.size)
        clear hHeld
        have hHeld := hHeld2
        clear hHeld2
        clear hB
        try simp only [Act.put, List.getElem_toArray, List.getElem_cons_succ, List.getElem_cons_zero, List.setIfInBounds_toArray, List.set_cons_zero, List.set_cons_succ]
        refine wpAnyH_take (i := 22) (v := .bool false) rfl (by kernel_rfl) (by kernel_rfl) (by kernel_rfl) (fun _ _ _ h => h) (Or.inl ⟨by rfl, ?_⟩) hHeld ?_
        · intro w' hSw; go_simp
        try simp only [Act.put, List.getElem_toArray, List.getElem_cons_succ, List.getElem_cons_zero, List.setIfInBounds_toArray, List.set_cons_zero, List.set_cons_succ]
        have HH2 := Lib.hid hHeld
        refine wpAnyH_done (by kernel_rfl) ?_ _
        clear hHeld
        have Hn := Lib.hid (HB.out.trans (HH2.out.mono (by omega)))
        go_wp2_with fail
        go_roundw
        case rel => exact ⟨k + 1, by omega, by omega, by go_num, Hn.out⟩
        case measure => simp [intOf]; omega
      · have llt : ¬ (k : Int) < (l.length : Int) := by omega
        clear hk1 hk kk0 HB HBa
        obtain ⟨d0, d1⟩ := Hbo.out.cells.c2
        simp only [Nat.zero_add] at d1
        obtain ⟨oc, hoc⟩ : ∃ oc, okL (ofErr cols l) cols = oc := ⟨_, rfl⟩
        obtain ⟨ol, hol⟩ : ∃ ol, okL (ofErr cols l) (relCanon l) = ol := ⟨_, rfl⟩
        have Hos : Hid (∀ x ∈ ol, ∀ a ∈ x, a.s.length ≤ 9223372036854775807) := Lib.hid (fun x hx => Hrs.out x (relCanon_mem (okL_mem (by rw [hol]; exact hx))))
        go_wp2_with fail
        refine OfK_any w.heap.size w1.heap.size w.heap.size w1.heap.size cols l _ _ wo Hca.out Hva.out (by omega) (by omega) (by omega) (fun x hx => by have := Hxl.out x hx; omega) _ (fun w5 cv5 lv5 hs5 hB5 hT5 hR5 => ?_)
        rw [hoc] at hT5
        rw [hol] at hR5
        obtain ⟨p5, q5, rfl⟩ := Own.slice hT5
        obtain ⟨p6, q6, e6⟩ := Own.slice hR5.own
        rw [hR5.len] at e6
        subst e6
        have HB5 := Lib.hid hB5
        have HT5 := Lib.hid hT5
        have HR5 := Lib.hid hR5
        have hz5 := hB5.size
        clear hB5 hT5 hR5
        clear d0 d1
        go_upto_region 10 with fail
        have hBa := alloc_below w5 (.cells #[.slice p5 oc.length q5, .slice p6 ol.length q6] 34)
        have hba := Blk.new w5 [.slice p5 oc.length q5, .slice p6 ol.length q6] 34 rfl
        generalize w5.alloc (.cells #[.slice p5 oc.length q5, .slice p6 ol.length q6] 34) = w6 at *
        have HB6 := Lib.hid hBa
        have Hb6 := Lib.hid hba
        have hz6 := hBa.size
        have hl6 := hba.lt
        have HW6 := Lib.hid (HBw.out.trans ((HB5.out.mono hzo).trans (HB6.out.mono (by omega))))
        clear hBa hba
        go_wp2_with fail
        refine refOfK_any lo hi lc hc cols _ _ l _ w6 (Sl.below Hc.out Strs.loc HW6.out hhc) (by omega) (Sl.below Hv.out rowE_loc HW6.out hhi) (by omega) (by omega) (fun x hx => by have := Hxl.out x hx; omega) Hrs.out _ (fun w7 cv7 lv7 hB7 hT7 hR7 => ?_)
        rw [hoc] at hT7
        rw [hol] at hR7
        obtain ⟨p7, q7, rfl, -, -, -, -⟩ := hT7.form
        obtain ⟨p8, q8, rfl, -, -, -, -⟩ := hR7.form
        have HB7 := Lib.hid hB7
        have HT7 := Lib.hid hT7
        have HR7 := Lib.hid hR7
        have hz7 := hB7.size
        clear hB7 hT7 hR7
        go_upto_region 11 with fail
        have hBa := alloc_below w7 (.cells #[.slice p7 oc.length q7, .slice p8 ol.length q8] 53)
        have hba := Blk.new w7 [.slice p7 oc.length q7, .slice p8 ol.length q8] 53 rfl
        generalize w7.alloc (.cells #[.slice p7 oc.length q7, .slice p8 ol.length q8] 53) = w8 at *
        have HB8 := Lib.hid hBa
        have hz8 := hBa.size
        have hl8 := hba.lt
        have HB58 := Lib.hid ((HB6.out.trans (HB7.out.mono (by omega))).trans (HB8.out.mono (by omega)))
        have HBo8 := Lib.hid (HB5.out.trans (HB58.out.mono hz5))
        obtain ⟨d0, d1⟩ := (Hb6.out.below (HB7.out.trans (HB8.out.mono hz7)) hl6).cells.c2
        obtain ⟨e0, e1⟩ := hba.cells.c2
        simp only [Nat.zero_add] at d1 e1
        clear hBa hba
        go_wp2_with fail
        refine told_any wo.heap.size 0 w7.heap.size 0 w7.heap.size oc ol hs5 _ _ _ _ _ w8 (by omega) (Own.kept HT5.out HB58.out) (Sl.below HT7.out Strs.loc HB8.out (Nat.le_refl _)) (OwnR.kept HR5.out HB58.out) (Sl.below HR7.out rowE_loc HB8.out (Nat.le_refl _)) (by omega) (by omega) Hos.out _ (fun w9 hB9 => ?_)
        have HBo9 := Lib.hid (HBo8.out.trans hB9)
        have hz9 := HBo9.out.size
        obtain ⟨d0, d1⟩ := (Hbo.out.below HBo9.out (by omega)).cells.c2
        simp only [Nat.zero_add] at d1
        clear hB9
        go_wp2_with fail
        refine lawSame_any w.heap.size w1.heap.size lo hi w.heap.size w1.heap.size lc hc cols l _ _ _ _ w9 (Sl.below Hca.out Strs.loc HBo9.out (by omega)) (Sl.below Hcl.out Strs.loc HBo9.out (by omega)) (Sl.below Hva.out rowE_loc HBo9.out (by omega)) (Sl.below Hvl.out rowE_loc HBo9.out (by omega)) (by omega) (by omega) (by omega) (by omega) Hrs.out _ (fun w10 hB10 => ?_)
        have hr := HR.out w10 ((HBw.out.trans (HBo9.out.mono hzo)).trans (hB10.mono (by omega)))
        clear hB10
        go_wp2_with fail
        first | exact hr | exact fin hr rfl
  · have hr := HR.out w (Below.refl _ _)
    clear hg
    go_wp2_with fail
    first | exact hr | exact fin hr rfl
end Go.Proofs.Ytpncblagjkbemaa
end

/- RowsAgain, walked. (Printed by outag.py.) -/
section
set_option linter.unusedVariables false
set_option linter.unusedSimpArgs false
namespace Go.Proofs.Ytpncblagjkbemaa
open Go.RowKit
set_option linter.unusedVariables false
set_option linter.unusedSimpArgs false
attribute [local go_sem ↓] Go.wp_at_zero Go.wp_at_succ

set_option maxRecDepth 100000 in
set_option maxHeartbeats 8000000 in
theorem RowsAgain_any {pa pb qa qb : Option Addr} {na nb ma mb : Nat} {rc sc : List S} {l m : List (List V)} (w : World) (h1 : RelH w pa na qa ma rc l) (h2 : RelH w pb nb qb mb sc m) (hrs : ∀ x ∈ l, ∀ a ∈ x, a.s.length ≤ 9223372036854775807) (hms : ∀ x ∈ m, ∀ a ∈ x, a.s.length ≤ 9223372036854775807) (R : Ending → World → Prop)
    (hR : ∀ w', Below w.heap.size w w' → R (.returned (.bool true)) w') : Calls Try.prog 9 #[.agg #[.slice pa rc.length na, .slice qa l.length ma], .agg #[.slice pb sc.length nb, .slice qb m.length mb]] w R := by
  have HR := Lib.hid hR
  have Hrs := Lib.hid hrs
  have Hms := Lib.hid hms
  obtain ⟨wb, ewb⟩ : ∃ x, x = w.alloc (.cells #[.slice pa rc.length na, .slice qa l.length ma] 34) := ⟨_, rfl⟩
  obtain ⟨wa, ewa⟩ : ∃ x, x = wb.alloc (.cells #[.slice pb sc.length nb, .slice qb m.length mb] 34) := ⟨_, rfl⟩
  have sb : w.heap.size + 1 = wb.heap.size := by rw [ewb]; simp
  have hB1 : Below w.heap.size w wb := by rw [ewb]; exact alloc_below _ _
  have hB2 : Below wb.heap.size wb wa := by rw [ewa]; exact alloc_below _ _
  have hb1 : RelAt wb w.heap.size pa na qa ma rc l := by rw [ewb]; exact RelH.box h1 rfl
  have hb2 : RelAt wa (w.heap.size + 1) pb nb qb mb sc m := by rw [ewa]; exact RelH.box (h2.below hB1) sb
  have hb1 := hb1.below hB2
  have hBa := hB1.trans (hB2.mono hB1.size)
  clear hR hrs hms sb
  go_enter Try.func9, Try.ntmps9
  go_upto_region 1 with fail
  rw [← ewb, ← ewa]
  clear ewa ewb hB1 hB2
  obtain ⟨b2, eb2⟩ : ∃ b, b = w.heap.size := ⟨_, rfl⟩
  obtain ⟨b3, eb3⟩ : ∃ b, b = w.heap.size + 1 := ⟨_, rfl⟩
  rw [← eb3, ← eb2]
  rw [← eb2] at hb1
  rw [← eb3] at hb2
  clear eb2 eb3 h1 h2
  have HB := Lib.hid (hBa)
  have Hr := Lib.hid (hb1)
  have Hs := Lib.hid (hb2)
  clear hBa hb1 hb2
  go_wp2_with fail
  refine alive_P wa _ (fun wc1 hB => ?_)
  replace HB := Lib.hid (HB.out.trans (hB.mono HB.out.size))
  replace Hr := Lib.hid (Hr.out.below hB)
  replace Hs := Lib.hid (Hs.out.below hB)
  clear hB
  obtain ⟨c0, c1⟩ := Hr.out.blk.cells.c2
  simp only [Nat.zero_add] at c1
  obtain ⟨d0, d1⟩ := Hs.out.blk.cells.c2
  simp only [Nat.zero_add] at d1
  go_wp2_with fail
  refine great_any 0 wc1.heap.size rc _ _ l _ wc1 Hr.out.rel.rws _ ?_
  cases hg : greatB rc l
  case true =>
    clear hg c0 c1 d0 d1
    have hr := HR.out wc1 HB.out
    go_wp2_with fail
    first | exact hr | exact fin hr rfl
  obtain ⟨hclr, hllr, -⟩ := great_no hg
  clear hg
  go_wp2_with fail
  refine great_any 0 wc1.heap.size sc _ _ m _ wc1 Hs.out.rel.rws _ ?_
  cases hg : greatB sc m
  case true =>
    clear hg c0 c1 d0 d1
    have hr := HR.out wc1 HB.out
    go_wp2_with fail
    first | exact hr | exact fin hr rfl
  obtain ⟨hcls, hlls, -⟩ := great_no hg
  clear hg
  have hprod : l.length * m.length < 100000 := Nat.lt_of_le_of_lt (Nat.mul_le_mul hllr hlls) (by decide)
  have hpr2 : l.length * l.length < 100000 := Nat.lt_of_le_of_lt (Nat.mul_le_mul hllr hllr) (by decide)
  have hpr3 : m.length * l.length < 100000 := Nat.lt_of_le_of_lt (Nat.mul_le_mul hlls hllr) (by decide)
  have hlens : l.length ≤ 150 ∧ m.length ≤ 150 ∧ rc.length ≤ 60 ∧ sc.length ≤ 60 := ⟨hllr, hlls, hclr, hcls⟩
  have Hpr := Lib.hid hprod
  have Hpr2 := Lib.hid hpr2
  have Hpr3 := Lib.hid hpr3
  have Hlens := Lib.hid hlens
  clear hprod hpr2 hpr3 hlens c0 c1 d0 d1 hllr hlls hclr hcls
  obtain ⟨c0, c1⟩ := Hr.out.blk.cells.c2
  simp only [Nat.zero_add] at c1
  go_wp2_with fail
  refine May_K Hr.out.rel rfl _ (fun wc2 hB => ?_)
  replace HB := Lib.hid (HB.out.trans (hB.mono HB.out.size))
  replace Hr := Lib.hid (Hr.out.below hB)
  replace Hs := Lib.hid (Hs.out.below hB)
  clear hB c0 c1
  cases hm : mayRel rc l
  case false =>
    clear hm
    have hr := HR.out wc2 HB.out
    go_wp2_with fail
    first | exact hr | exact fin hr rfl
  have Hmr := Lib.hid hm
  clear hm
  obtain ⟨c0, c1⟩ := Hs.out.blk.cells.c2
  simp only [Nat.zero_add] at c1
  go_wp2_with fail
  refine May_K Hs.out.rel rfl _ (fun wc3 hB => ?_)
  replace HB := Lib.hid (HB.out.trans (hB.mono HB.out.size))
  replace Hr := Lib.hid (Hr.out.below hB)
  replace Hs := Lib.hid (Hs.out.below hB)
  clear hB c0 c1
  cases hm : mayRel sc m
  case false =>
    clear hm
    have hr := HR.out wc3 HB.out
    go_wp2_with fail
    first | exact hr | exact fin hr rfl
  have Hms2 := Lib.hid hm
  clear hm
  obtain ⟨c0, c1⟩ := Hr.out.blk.cells.c2
  simp only [Nat.zero_add] at c1
  go_wp2_with fail
  refine Join_K Hr.out.rel Hr.out.rel Hpr2.out (e := 0) (co := rc) (lo := l) (join_self_err Hmr.out) (by rw [joinCols_self]; rfl) (by rw [join_self_rows Hmr.out]; rfl) _ (fun wc4 v hB hV => ?_)
  obtain ⟨p5, q6, p7, q8, rfl, hV⟩ := hV
  replace HB := Lib.hid (HB.out.trans (hB.mono HB.out.size))
  replace Hr := Lib.hid (Hr.out.below hB)
  replace Hs := Lib.hid (Hs.out.below hB)
  have Hrel9 := Lib.hid (show (Pd.rel _ _).says _ _ from ⟨_, _, _, _, rfl, hV⟩)
  clear hB hV
  clear c0 c1
  go_upto_region 7 with fail
  have hb := RelH.box (n := wc4.heap.size) (relH Hrel9.out) rfl
  have hB := alloc_below wc4 (.cells #[.slice p5 rc.length q6, .slice p7 l.length q8] 34)
  try simp only [List.length_cons, List.length_nil, Nat.zero_add, Nat.reduceAdd] at hb
  generalize wc4.alloc (.cells #[.slice p5 rc.length q6, .slice p7 l.length q8] 34) = w10 at *
  obtain ⟨b6, eb6⟩ : ∃ b, b = wc4.heap.size := ⟨_, rfl⟩
  rw [← eb6] at hb ⊢
  clear eb6
  replace HB := Lib.hid (HB.out.trans (hB.mono HB.out.size))
  replace Hr := Lib.hid (Hr.out.below hB)
  replace Hs := Lib.hid (Hs.out.below hB)
  replace Hrel9 := Lib.hid (Pd.step Hrel9.out hB)
  have Ha := Lib.hid (hb)
  clear hB hb
  clear Hrel9
  obtain ⟨c0, c1⟩ := Hr.out.blk.cells.c2
  simp only [Nat.zero_add] at c1
  go_wp2_with fail
  refine Or_K Hr.out.rel Hr.out.rel (by have := Hlens.out; omega) (e := 0) (co := rc) (lo := l) (or_self_err Hmr.out) rfl (by rw [or_self_rows Hmr.out]; rfl) _ (fun wc11 v hB hV => ?_)
  obtain ⟨p12, q13, p14, q15, rfl, hV⟩ := hV
  replace HB := Lib.hid (HB.out.trans (hB.mono HB.out.size))
  replace Hr := Lib.hid (Hr.out.below hB)
  replace Hs := Lib.hid (Hs.out.below hB)
  replace Ha := Lib.hid (Ha.out.below hB)
  have Hrel16 := Lib.hid (show (Pd.rel _ _).says _ _ from ⟨_, _, _, _, rfl, hV⟩)
  clear hB hV
  clear c0 c1
  go_upto_region 8 with fail
  have hb := RelH.box (n := wc11.heap.size) (relH Hrel16.out) rfl
  have hB := alloc_below wc11 (.cells #[.slice p12 rc.length q13, .slice p14 l.length q15] 34)
  try simp only [List.length_cons, List.length_nil, Nat.zero_add, Nat.reduceAdd] at hb
  generalize wc11.alloc (.cells #[.slice p12 rc.length q13, .slice p14 l.length q15] 34) = w17 at *
  obtain ⟨b8, eb8⟩ : ∃ b, b = wc11.heap.size := ⟨_, rfl⟩
  rw [← eb8] at hb ⊢
  clear eb8
  replace HB := Lib.hid (HB.out.trans (hB.mono HB.out.size))
  replace Hr := Lib.hid (Hr.out.below hB)
  replace Hs := Lib.hid (Hs.out.below hB)
  replace Ha := Lib.hid (Ha.out.below hB)
  replace Hrel16 := Lib.hid (Pd.step Hrel16.out hB)
  have Hb := Lib.hid (hb)
  clear hB hb
  clear Hrel16
  obtain ⟨c0, c1⟩ := Hr.out.blk.cells.c2
  simp only [Nat.zero_add] at c1
  go_wp2_with fail
  refine Without_K Hr.out.rel Hr.out.rel (e := 0) (co := rc) (lo := []) (wo_self_err Hmr.out) rfl (by rw [wo_self Hmr.out]; rfl) _ (fun wc18 v hB hV => ?_)
  obtain ⟨p19, q20, p21, q22, rfl, hV⟩ := hV
  replace HB := Lib.hid (HB.out.trans (hB.mono HB.out.size))
  replace Hr := Lib.hid (Hr.out.below hB)
  replace Hs := Lib.hid (Hs.out.below hB)
  replace Ha := Lib.hid (Ha.out.below hB)
  replace Hb := Lib.hid (Hb.out.below hB)
  have Hrel23 := Lib.hid (show (Pd.rel _ _).says _ _ from ⟨_, _, _, _, rfl, hV⟩)
  clear hB hV
  clear c0 c1
  go_upto_region 9 with fail
  have hb := RelH.box (n := wc18.heap.size) (relH Hrel23.out) rfl
  have hB := alloc_below wc18 (.cells #[.slice p19 rc.length q20, .slice p21 0 q22] 34)
  try simp only [List.length_cons, List.length_nil, Nat.zero_add, Nat.reduceAdd] at hb
  generalize wc18.alloc (.cells #[.slice p19 rc.length q20, .slice p21 0 q22] 34) = w24 at *
  obtain ⟨b10, eb10⟩ : ∃ b, b = wc18.heap.size := ⟨_, rfl⟩
  rw [← eb10] at hb ⊢
  clear eb10
  replace HB := Lib.hid (HB.out.trans (hB.mono HB.out.size))
  replace Hr := Lib.hid (Hr.out.below hB)
  replace Hs := Lib.hid (Hs.out.below hB)
  replace Ha := Lib.hid (Ha.out.below hB)
  replace Hb := Lib.hid (Hb.out.below hB)
  replace Hrel23 := Lib.hid (Pd.step Hrel23.out hB)
  have Hc := Lib.hid (hb)
  clear hB hb
  clear Hrel23
  obtain ⟨c0, c1⟩ := Ha.out.blk.cells.c2
  simp only [Nat.zero_add] at c1
  obtain ⟨d0, d1⟩ := Hr.out.blk.cells.c2
  simp only [Nat.zero_add] at d1
  go_wp2_with fail
  refine Same_K Ha.out.rel Hr.out.rel rfl rfl Hrs.out _ (fun wc25 hB => ?_)
  replace HB := Lib.hid (HB.out.trans (hB.mono HB.out.size))
  replace Hr := Lib.hid (Hr.out.below hB)
  replace Hs := Lib.hid (Hs.out.below hB)
  replace Ha := Lib.hid (Ha.out.below hB)
  replace Hb := Lib.hid (Hb.out.below hB)
  replace Hc := Lib.hid (Hc.out.below hB)
  clear hB c0 c1 d0 d1
  obtain ⟨c0, c1⟩ := Hb.out.blk.cells.c2
  simp only [Nat.zero_add] at c1
  obtain ⟨d0, d1⟩ := Hr.out.blk.cells.c2
  simp only [Nat.zero_add] at d1
  go_wp2_with fail
  refine Same_K Hb.out.rel Hr.out.rel rfl rfl Hrs.out _ (fun wc26 hB => ?_)
  replace HB := Lib.hid (HB.out.trans (hB.mono HB.out.size))
  replace Hr := Lib.hid (Hr.out.below hB)
  replace Hs := Lib.hid (Hs.out.below hB)
  replace Ha := Lib.hid (Ha.out.below hB)
  replace Hb := Lib.hid (Hb.out.below hB)
  replace Hc := Lib.hid (Hc.out.below hB)
  clear hB c0 c1 d0 d1
  obtain ⟨c0, c1⟩ := Hc.out.blk.cells.c2
  simp only [Nat.zero_add] at c1
  try simp only [List.length_nil] at c1
  go_upto_region 11 with fail
  clear c0 c1
  clear Ha Hb Hc
  by_cases hbig : 32 < (joinCols rc sc).length
  · have he1 : joinErr rc l sc m = 140 := by rw [joinErr_cols Hmr.out Hms2.out Hpr.out, if_pos hbig]
    have he2 : joinErr sc m rc l = 140 := by rw [← joinErr_turn Hmr.out Hms2.out Hpr.out]; exact he1
    have He1 := Lib.hid he1
    have He2 := Lib.hid he2
    clear he1 he2 hbig
    obtain ⟨c0, c1⟩ := Hr.out.blk.cells.c2
    simp only [Nat.zero_add] at c1
    obtain ⟨d0, d1⟩ := Hs.out.blk.cells.c2
    simp only [Nat.zero_add] at d1
    go_wp2_with fail
    refine Join_K Hr.out.rel Hs.out.rel Hpr.out (e := 140) (co := []) (lo := []) He1.out rfl rfl _ (fun wc27 v hB hV => ?_)
    obtain ⟨p28, q29, p30, q31, rfl, hV⟩ := hV
    replace HB := Lib.hid (HB.out.trans (hB.mono HB.out.size))
    replace Hr := Lib.hid (Hr.out.below hB)
    replace Hs := Lib.hid (Hs.out.below hB)
    have Hrel32 := Lib.hid (show (Pd.rel _ _).says _ _ from ⟨_, _, _, _, rfl, hV⟩)
    clear hB hV
    clear c0 c1
    clear d0 d1
    go_upto_region 12 with fail
    have hb := RelH.box (n := wc27.heap.size) (relH Hrel32.out) rfl
    have hB := alloc_below wc27 (.cells #[.slice p28 0 q29, .slice p30 0 q31] 34)
    try simp only [List.length_cons, List.length_nil, Nat.zero_add, Nat.reduceAdd] at hb
    generalize wc27.alloc (.cells #[.slice p28 0 q29, .slice p30 0 q31] 34) = w33 at *
    obtain ⟨b12, eb12⟩ : ∃ b, b = wc27.heap.size := ⟨_, rfl⟩
    rw [← eb12] at hb ⊢
    clear eb12
    replace HB := Lib.hid (HB.out.trans (hB.mono HB.out.size))
    replace Hr := Lib.hid (Hr.out.below hB)
    replace Hs := Lib.hid (Hs.out.below hB)
    replace Hrel32 := Lib.hid (Pd.step Hrel32.out hB)
    have Hx := Lib.hid (hb)
    clear hB hb
    clear Hrel32
    obtain ⟨c0, c1⟩ := Hs.out.blk.cells.c2
    simp only [Nat.zero_add] at c1
    obtain ⟨d0, d1⟩ := Hr.out.blk.cells.c2
    simp only [Nat.zero_add] at d1
    go_wp2_with fail
    refine Join_K Hs.out.rel Hr.out.rel Hpr3.out (e := 140) (co := []) (lo := []) He2.out rfl rfl _ (fun wc34 v hB hV => ?_)
    obtain ⟨p35, q36, p37, q38, rfl, hV⟩ := hV
    replace HB := Lib.hid (HB.out.trans (hB.mono HB.out.size))
    replace Hr := Lib.hid (Hr.out.below hB)
    replace Hs := Lib.hid (Hs.out.below hB)
    replace Hx := Lib.hid (Hx.out.below hB)
    have Hrel39 := Lib.hid (show (Pd.rel _ _).says _ _ from ⟨_, _, _, _, rfl, hV⟩)
    clear hB hV
    clear c0 c1
    clear d0 d1
    go_upto_region 13 with fail
    have hb := RelH.box (n := wc34.heap.size) (relH Hrel39.out) rfl
    have hB := alloc_below wc34 (.cells #[.slice p35 0 q36, .slice p37 0 q38] 34)
    try simp only [List.length_cons, List.length_nil, Nat.zero_add, Nat.reduceAdd] at hb
    generalize wc34.alloc (.cells #[.slice p35 0 q36, .slice p37 0 q38] 34) = w40 at *
    obtain ⟨b14, eb14⟩ : ∃ b, b = wc34.heap.size := ⟨_, rfl⟩
    rw [← eb14] at hb ⊢
    clear eb14
    replace HB := Lib.hid (HB.out.trans (hB.mono HB.out.size))
    replace Hr := Lib.hid (Hr.out.below hB)
    replace Hs := Lib.hid (Hs.out.below hB)
    replace Hx := Lib.hid (Hx.out.below hB)
    replace Hrel39 := Lib.hid (Pd.step Hrel39.out hB)
    have Hy := Lib.hid (hb)
    clear hB hb
    clear Hrel39
    have hr := HR.out w40 HB.out
    go_wp2_with fail
    first | exact hr | exact fin hr rfl
  · have he1 : joinErr rc l sc m = 0 := by rw [joinErr_cols Hmr.out Hms2.out Hpr.out, if_neg hbig]
    have he2 : joinErr sc m rc l = 0 := by rw [← joinErr_turn Hmr.out Hms2.out Hpr.out]; exact he1
    have ht := turn_rows Hmr.out Hms2.out
    have hte := turn_err Hmr.out Hms2.out he1 he2
    have hst : ∀ x ∈ relCanon (joinL rc l sc m), ∀ a ∈ x, a.s.length ≤ 9223372036854775807 := fun z hz a ha => by
      obtain ⟨x, hx, y, hy, -, rfl⟩ := joinL_mem.1 (canon_mem'.1 hz)
      rcases List.mem_append.1 ha with ha | ha
      · exact Hrs.out x hx a ha
      · rw [← pick_val] at ha
        exact pick_str (Hms.out y hy) a ha
    have hjl : (joinCols rc sc).length ≤ 32 := by omega
    have hyl : (relCanon (joinL sc m rc l)).length ≤ 100000 := (joinErr_zero Hms2.out Hmr.out he2).2
    obtain ⟨J1, ej1⟩ : ∃ x, joinCols rc sc = x := ⟨_, rfl⟩
    obtain ⟨J2, ej2⟩ : ∃ x, joinCols sc rc = x := ⟨_, rfl⟩
    obtain ⟨L1, el1⟩ : ∃ x, relCanon (joinL rc l sc m) = x := ⟨_, rfl⟩
    obtain ⟨L2, el2⟩ : ∃ x, relCanon (joinL sc m rc l) = x := ⟨_, rfl⟩
    rw [ej1, ej2, el2] at hte ht
    rw [el1] at ht hst
    rw [ej1] at hjl
    rw [el2] at hyl
    have He1 := Lib.hid he1
    have He2 := Lib.hid he2
    have Ht := Lib.hid ht
    have Hte := Lib.hid hte
    have Hst := Lib.hid hst
    have Hjl := Lib.hid hjl
    have Hyl := Lib.hid hyl
    have Ej1 := Lib.hid ej1
    have Ej2 := Lib.hid ej2
    have El1 := Lib.hid el1
    have El2 := Lib.hid el2
    clear he1 he2 hbig ht hte hst ej1 ej2 el1 el2 hjl hyl
    obtain ⟨c0, c1⟩ := Hr.out.blk.cells.c2
    simp only [Nat.zero_add] at c1
    obtain ⟨d0, d1⟩ := Hs.out.blk.cells.c2
    simp only [Nat.zero_add] at d1
    go_wp2_with fail
    refine Join_K Hr.out.rel Hs.out.rel Hpr.out (e := 0) (co := J1) (lo := L1) He1.out Ej1.out El1.out _ (fun wc27 v hB hV => ?_)
    obtain ⟨p28, q29, p30, q31, rfl, hV⟩ := hV
    replace HB := Lib.hid (HB.out.trans (hB.mono HB.out.size))
    replace Hr := Lib.hid (Hr.out.below hB)
    replace Hs := Lib.hid (Hs.out.below hB)
    have Hrel32 := Lib.hid (show (Pd.rel _ _).says _ _ from ⟨_, _, _, _, rfl, hV⟩)
    clear hB hV
    clear c0 c1
    clear d0 d1
    go_upto_region 12 with fail
    have hb := RelH.box (n := wc27.heap.size) (relH Hrel32.out) rfl
    have hB := alloc_below wc27 (.cells #[.slice p28 J1.length q29, .slice p30 L1.length q31] 34)
    try simp only [List.length_cons, List.length_nil, Nat.zero_add, Nat.reduceAdd] at hb
    generalize wc27.alloc (.cells #[.slice p28 J1.length q29, .slice p30 L1.length q31] 34) = w33 at *
    obtain ⟨b12, eb12⟩ : ∃ b, b = wc27.heap.size := ⟨_, rfl⟩
    rw [← eb12] at hb ⊢
    clear eb12
    replace HB := Lib.hid (HB.out.trans (hB.mono HB.out.size))
    replace Hr := Lib.hid (Hr.out.below hB)
    replace Hs := Lib.hid (Hs.out.below hB)
    replace Hrel32 := Lib.hid (Pd.step Hrel32.out hB)
    have Hx := Lib.hid (hb)
    clear hB hb
    clear Hrel32
    obtain ⟨c0, c1⟩ := Hs.out.blk.cells.c2
    simp only [Nat.zero_add] at c1
    obtain ⟨d0, d1⟩ := Hr.out.blk.cells.c2
    simp only [Nat.zero_add] at d1
    go_wp2_with fail
    refine Join_K Hs.out.rel Hr.out.rel Hpr3.out (e := 0) (co := J2) (lo := L2) He2.out Ej2.out El2.out _ (fun wc34 v hB hV => ?_)
    obtain ⟨p35, q36, p37, q38, rfl, hV⟩ := hV
    replace HB := Lib.hid (HB.out.trans (hB.mono HB.out.size))
    replace Hr := Lib.hid (Hr.out.below hB)
    replace Hs := Lib.hid (Hs.out.below hB)
    replace Hx := Lib.hid (Hx.out.below hB)
    have Hrel39 := Lib.hid (show (Pd.rel _ _).says _ _ from ⟨_, _, _, _, rfl, hV⟩)
    clear hB hV
    clear c0 c1
    clear d0 d1
    go_upto_region 13 with fail
    have hb := RelH.box (n := wc34.heap.size) (relH Hrel39.out) rfl
    have hB := alloc_below wc34 (.cells #[.slice p35 J2.length q36, .slice p37 L2.length q38] 34)
    try simp only [List.length_cons, List.length_nil, Nat.zero_add, Nat.reduceAdd] at hb
    generalize wc34.alloc (.cells #[.slice p35 J2.length q36, .slice p37 L2.length q38] 34) = w40 at *
    obtain ⟨b14, eb14⟩ : ∃ b, b = wc34.heap.size := ⟨_, rfl⟩
    rw [← eb14] at hb ⊢
    clear eb14
    replace HB := Lib.hid (HB.out.trans (hB.mono HB.out.size))
    replace Hr := Lib.hid (Hr.out.below hB)
    replace Hs := Lib.hid (Hs.out.below hB)
    replace Hx := Lib.hid (Hx.out.below hB)
    replace Hrel39 := Lib.hid (Pd.step Hrel39.out hB)
    have Hy := Lib.hid (hb)
    clear hB hb
    clear Hrel39
    obtain ⟨c0, c1⟩ := Hy.out.blk.cells.c2
    simp only [Nat.zero_add] at c1
    obtain ⟨d0, d1⟩ := Hx.out.blk.cells.c2
    simp only [Nat.zero_add] at d1
    go_wp2_with fail
    refine Project_K Hy.out.rel Hx.out.rel.strs (by have := Hjl.out; omega) (by have := Hyl.out; omega) (e := 0) (co := J1) (lo := L1) Hte.out rfl Ht.out _ (fun wc41 v hB hV => ?_)
    obtain ⟨p42, q43, p44, q45, rfl, hV⟩ := hV
    replace HB := Lib.hid (HB.out.trans (hB.mono HB.out.size))
    replace Hr := Lib.hid (Hr.out.below hB)
    replace Hs := Lib.hid (Hs.out.below hB)
    replace Hx := Lib.hid (Hx.out.below hB)
    replace Hy := Lib.hid (Hy.out.below hB)
    have Hrel46 := Lib.hid (show (Pd.rel _ _).says _ _ from ⟨_, _, _, _, rfl, hV⟩)
    clear hB hV
    clear c0 c1
    clear d0 d1
    go_upto_region 16 with fail
    have hb := RelH.box (n := wc41.heap.size) (relH Hrel46.out) rfl
    have hB := alloc_below wc41 (.cells #[.slice p42 J1.length q43, .slice p44 L1.length q45] 34)
    try simp only [List.length_cons, List.length_nil, Nat.zero_add, Nat.reduceAdd] at hb
    generalize wc41.alloc (.cells #[.slice p42 J1.length q43, .slice p44 L1.length q45] 34) = w47 at *
    obtain ⟨b16, eb16⟩ : ∃ b, b = wc41.heap.size := ⟨_, rfl⟩
    rw [← eb16] at hb ⊢
    clear eb16
    replace HB := Lib.hid (HB.out.trans (hB.mono HB.out.size))
    replace Hr := Lib.hid (Hr.out.below hB)
    replace Hs := Lib.hid (Hs.out.below hB)
    replace Hx := Lib.hid (Hx.out.below hB)
    replace Hy := Lib.hid (Hy.out.below hB)
    replace Hrel46 := Lib.hid (Pd.step Hrel46.out hB)
    have Hz := Lib.hid (hb)
    clear hB hb
    clear Hrel46
    obtain ⟨c0, c1⟩ := Hx.out.blk.cells.c2
    simp only [Nat.zero_add] at c1
    obtain ⟨d0, d1⟩ := Hz.out.blk.cells.c2
    simp only [Nat.zero_add] at d1
    go_wp2_with fail
    refine Same_K Hx.out.rel Hz.out.rel rfl rfl Hst.out _ (fun wc48 hB => ?_)
    replace HB := Lib.hid (HB.out.trans (hB.mono HB.out.size))
    replace Hr := Lib.hid (Hr.out.below hB)
    replace Hs := Lib.hid (Hs.out.below hB)
    replace Hx := Lib.hid (Hx.out.below hB)
    replace Hy := Lib.hid (Hy.out.below hB)
    replace Hz := Lib.hid (Hz.out.below hB)
    clear hB c0 c1 d0 d1
    have hr := HR.out wc48 HB.out
    go_wp2_with fail
    first | exact hr | exact fin hr rfl
end Go.Proofs.Ytpncblagjkbemaa
end

/- The walk of RowsAgain, of two relations as arguments lay them. -/
section
set_option linter.unusedVariables false
set_option linter.unusedSimpArgs false
namespace Go.Proofs.Ytpncblagjkbemaa
open Go.RowKit
theorem RowsAgain_rel (p q : List S × List (List V)) (v u : Value) (w : World) (hp : RelIn w v p) (ho : relOk p) (hq : RelIn w u q) (hoq : relOk q) (R : Ending → World → Prop)
    (hR : ∀ w', Below w.heap.size w w' → R (.returned (.bool true)) w') : Calls Try.prog 9 #[v, u] w R := by
  obtain ⟨ac, cc, lv, rfl, h1, h2⟩ := hp
  obtain ⟨ad, cd, mv, rfl, h3, h4⟩ := hq
  obtain ⟨p1, q1, rfl, -, -, -, -⟩ := h2.form
  obtain ⟨p2, q2, rfl, -, -, -, -⟩ := h4.form
  exact RowsAgain_any w ⟨h1, h2⟩ ⟨h3, h4⟩ (fun x hx a ha => ho x hx a ha) (fun x hx a ha => hoq x hx a ha) R hR
end Go.Proofs.Ytpncblagjkbemaa
end

/- RowsAgain holds outright: for any two relations the call returns true, and the arguments read behind it as before. No condition. -/
section
set_option linter.unusedVariables false
set_option linter.unusedSimpArgs false
namespace Go.Proofs.Ytpncblagjkbemaa.rowsAgain
open Go.ChangeShapes Go.WideShapes Go.ChangeAt Go.RowKit
open Go.ChangeMaps (open_string shut_string)
set_option linter.unusedVariables false

set_option maxRecDepth 100000 in
theorem contract (H : Type) (enc : TypeId × Value → H) (W : World) (base : Nat) (args : Array Value) (ds gs : List (DataW H)) (before : List MemPlace)
    (hval : ∀ (j : Nat) t v, Try.f9.params[j]? = some t → args[j]? = some v → Value.okWide Try.prog W .any base t v)
    (hW : DataW.Whole enc Try.prog Try.f9.params.toList Rows.rowsAgainSpec.vars false W args.toList ds gs before) :
    Calls Try.prog 9 args W fun e W' => ∃ v, e = .returned v ∧ Rows.rowsAgainSpec.post enc Try.prog Try.f9 false true false false W args v W' := by
  have hW' := hW
  obtain ⟨p, q, hA0, hV, rfl, hfz, hnd⟩ := hW
  have hA : DataW.TrodAll enc Try.prog W 0 (fun _ => true) true Try.f9.params.toList args.toList ds p := hA0
  rw [Try.params9] at hA hval
  have hAk := hA
  obtain ⟨v0, vs0, d0, ds0, p0, q0, hargs, rfl, rfl, h0, r0⟩ := trodAll_cons hA
  obtain ⟨v1, vs1, d1, ds1, p1, q1, rfl, rfl, rfl, h1, r1⟩ := trodAll_cons r0
  obtain ⟨rfl, rfl, rfl⟩ := trodAll_nil r1
  obtain rfl : args = #[v0, v1] := by cases args; simp_all
  obtain ⟨rfl, rfl⟩ := trodVars_none hV
  obtain ⟨x0, s0, o0⟩ := open_rel (hval 0 34 v0 rfl rfl) h0
  obtain ⟨x1, s1, o1⟩ := open_rel (hval 1 34 v1 rfl rfl) h1
  clear hA0
  refine RowsAgain_rel x0 x1 _ _ W s0 o0 s1 o1 _ fun W' bel => ?_
  exact ⟨_, rfl, _, _, _, [], _, [], hW', trodAll_mk1 (shut_bool Try.underlying4 _), trodAll_below laidOut bel _ _ _ _ (by kernel_rfl) hAk, rfl, bel.frame _, fun h => by cases h⟩

set_option maxRecDepth 100000 in
theorem lifted (os : Os) (started : os.Started) (H : Type) (enc : TypeId × Value → H) :
    ReturnsInHanded {} Try.checked os 9 .any (Rows.rowsAgainSpec.pre6 enc Try.prog Try.f9 Rows.rowsAgainRow.domain false) (Rows.rowsAgainSpec.post enc Try.prog Try.f9 false true false false) := by
  refine returnsInHanded_of_change (C := Try.checked) own started (by kernel_rfl) Try.func9
    (ChangeSpec.witness6 (enc := enc) (C := Try.checked) false ⟨#[], #[.agg #[.slice none 0 0, .slice none 0 0], .agg #[.slice none 0 0, .slice none 0 0]], []⟩ 8 (by kernel_rfl) (by kernel_rfl) (by kernel_rfl) (by kernel_rfl)) ?_
  intro W base args ds gs before hval hW _ _
  exact contract H enc W base args ds gs before hval hW

theorem over : Rows.rowsAgainRow.holds Try.pinned (OpenSpec.ofChange Rows.rowsAgainSpec) :=
  OpenClaim.holds_of_wide 9 Try.f9 rfl rfl rfl rfl rfl rfl rfl ⟨rfl, rfl, rfl, rfl, rfl⟩ rfl rfl rfl rfl rfl (by kernel_rfl) Try.func9 (by kernel_rfl)
    (of_decide_eq_true (by kernel_rfl)) (by unfold Func.isWrapper; first | (rw [if_pos (by decide +kernel)]; kernel_rfl) | (rw [if_neg (by decide +kernel)]; exact ⟨rfl, rfl⟩))
    (fun os started H enc _ => lifted os started H enc)

theorem proved : Rows.RowsAgainSaid := over
end Go.Proofs.Ytpncblagjkbemaa.rowsAgain
end
