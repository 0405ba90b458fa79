/- The law's told on answers that are alike. (Printed by rowr.py.) -/
import Derived.Test.YtpncblagjkbemaaRowQ
namespace Go.Proofs.Ytpncblagjkbemaa
open Go.RowKit
set_option linter.unusedVariables false
set_option linter.unusedSimpArgs false

/-- The blocks that are written over. -/
def TB (ca : Value) (hs : List Value) (b : Nat) : Prop := ca.ownBlock = some b ∨ ∃ h ∈ hs, h.ownBlock = some b
/-- What the walk over a's rows and columns keeps. -/
structure ToldIn (lo hi : Nat) (w wr : World) (hs : List Value) (ns : List Nat) (la ca : Value) (nc : Nat) : Prop where
  own : OwnH lo wr la hs
  len : hs.length = ns.length
  row : ∀ i (h : i < hs.length) (h2 : i < ns.length), Shp 24 3 lo hi wr hs[i] ns[i]
  col : Shp 9 1 lo hi wr ca nc
  box : Blk wr hi [ca, la] 34
  bel : Below lo w wr
  only : Only (TB ca hs) w wr
theorem ToldIn.set {lo hi : Nat} {w wr : World} {hs : List Value} {ns : List Nat} {la ca : Value} {nc : Nat} (h : ToldIn lo hi w wr hs ns la ca nc) {b i : Nat} (u : Value) (h1 : lo ≤ b) (h2 : b < hi) (h3 : la.ownBlock ≠ some b) (h4 : TB ca hs b) : ToldIn lo hi w (wr.setCell ⟨b, i, none⟩ u) hs ns la ca nc :=
  ⟨Own.setOther h.own h3 u, h.len, fun k hk h2 => (h.row k hk h2).setCell b i u, h.col.setCell b i u, h.box.other (by show hi ≠ b; omega) u, h.bel.setCell (p := ⟨b, i, none⟩) h1 u, h.only.trans (Only.setCell wr (p := ⟨b, i, none⟩) h4 u)⟩
set_option maxRecDepth 100000 in
set_option maxHeartbeats 2000000 in
theorem toldO_any (lo lo2 hi2 lc2 hc2 : Nat) (cols : List S) (l : List (List V)) (hs : List Value) (ca cb la lb : Value) (e : Int) (w : World) (hlo : lo ≤ w.heap.size) (hca : OwnT lo w ca cols) (hcb : Strs lc2 hc2 w cb cols) (hla : OwnR lo w la hs l) (hlb : Rws lo2 hi2 w lb l) (h2 : hc2 ≤ w.heap.size) (h4 : hi2 ≤ w.heap.size) (hrs : ∀ x ∈ l, ∀ a ∈ x, a.s.length ≤ 9223372036854775807) (R : Ending → World → Prop)
    (hR : ∀ w', Below lo w w' → Only (TB ca hs) w w' → R (.returned (.bool true)) w') : Calls Try.prog 28 #[.agg #[ca, la], .int .i64 e, .agg #[cb, lb], .int .i64 e] w R := by
  have HR := Lib.hid hR
  have OCa := Lib.hid hca
  have OLa := Lib.hid hla
  have HCa := Lib.hid (OwnT.sl hca)
  have HCb := Lib.hid hcb
  have HLa := Lib.hid (OwnR.rws hla)
  have HLb := Lib.hid hlb
  have Hrs := Lib.hid hrs
  obtain ⟨aca, cca, rfl⟩ := Own.slice hca
  obtain ⟨acb, ccb, rfl, -, -, -, -⟩ := hcb.form
  obtain ⟨ala, cla, rfl, -, -, -, -⟩ := (OwnR.rws hla).form
  obtain ⟨alb, clb, rfl, -, -, -, -⟩ := hlb.form
  clear hR hca hcb hla hlb hrs
  go_enter Try.func28, Try.ntmps28
  go_upto_region 1 with fail
  obtain ⟨w0, hw0⟩ : ∃ w0, w0 = (w.alloc (.cells #[.slice aca cols.length cca, .slice ala l.length cla] 34)).alloc (.cells #[.slice acb cols.length ccb, .slice alb l.length clb] 53) := ⟨_, rfl⟩
  have s1 : (w.alloc (.cells #[.slice aca cols.length cca, .slice ala l.length cla] 34)).heap.size = w.heap.size + 1 := Array.size_push _
  have hB0 : Below w.heap.size w w0 := by
    rw [hw0]
    exact (alloc_below w _).alloc (by rw [s1]; omega) _
  have hz0 : w.heap.size + 1 < w0.heap.size := by
    rw [hw0]
    show _ < (Array.push _ _).size
    rw [Array.size_push, s1]; omega
  have hb1 : Blk w0 w.heap.size [.slice aca cols.length cca, .slice ala l.length cla] 34 := by
    rw [hw0]
    exact (Blk.new w [.slice aca cols.length cca, .slice ala l.length cla] _ rfl).alloc _
  have hb2 : Blk w0 (w.heap.size + 1) [.slice acb cols.length ccb, .slice alb l.length clb] 53 := by
    rw [hw0]
    exact Blk.new _ [.slice acb cols.length ccb, .slice alb l.length clb] _ s1.symm
  rw [← hw0]
  clear hw0 s1
  have HB0 := Lib.hid hB0
  have HA := Lib.hid hb1
  have HBb := Lib.hid hb2
  have hb1l : w.heap.size < w0.heap.size := by omega
  clear hB0 hb1 hb2
  have hS0 : Below w0.heap.size w0 w0.drew := (Below.refl _ _).drew
  refine wp_region_held_drew (S := fun w' => Below w0.heap.size w0 w') (by kernel_rfl) hS0 (fun hHeld => ?_)
  refine wpAnyH_take (i := 0) (v := .int .i64 e) rfl (by kernel_rfl) (by kernel_rfl) (by kernel_rfl) (fun _ _ _ h => h) (Or.inl ⟨by rfl, ?_⟩) hHeld ?_
  · intro w' hSw; go_simp
  try simp only [Act.put, List.getElem_toArray, List.getElem_cons_succ, List.getElem_cons_zero, List.setIfInBounds_toArray, List.set_cons_zero, List.set_cons_succ]
  refine wpAnyH_take (i := 1) (v := .int .i64 e) rfl (by kernel_rfl) (by kernel_rfl) (by kernel_rfl) (fun _ _ _ h => h) (Or.inl ⟨by rfl, ?_⟩) hHeld ?_
  · intro w' hSw; go_simp
  try simp only [Act.put, List.getElem_toArray, List.getElem_cons_succ, List.getElem_cons_zero, List.setIfInBounds_toArray, List.set_cons_zero, List.set_cons_succ]
  refine wpAnyH_take (i := 2) (v := .bool true) rfl (by kernel_rfl) (by kernel_rfl) (by kernel_rfl) (fun _ _ _ h => h) (Or.inl ⟨by rfl, ?_⟩) hHeld ?_
  · intro w' hSw; go_simp
  try simp only [Act.put, List.getElem_toArray, List.getElem_cons_succ, List.getElem_cons_zero, List.setIfInBounds_toArray, List.set_cons_zero, List.set_cons_succ]
  refine wpAnyH_take (i := 3) (v := .bool true) rfl (by kernel_rfl) (by kernel_rfl) (by kernel_rfl) (fun _ _ _ h => h) (Or.inl ⟨by rfl, ?_⟩) hHeld ?_
  · intro w' hSw; go_simp
  try simp only [Act.put, List.getElem_toArray, List.getElem_cons_succ, List.getElem_cons_zero, List.setIfInBounds_toArray, List.set_cons_zero, List.set_cons_succ]
  refine wpAnyH_take (i := 4) (v := .agg #[.slice aca cols.length cca, .slice ala l.length cla]) rfl (by kernel_rfl) (by kernel_rfl) (by kernel_rfl) (fun _ _ _ h => h) (Or.inl ⟨by rfl, ?_⟩) hHeld ?_
  · intro w' hSw; have kx := (HA.out.below hSw hb1l).cells.runVar (P := Try.prog) (t := 34) (fun _ => by kernel_rfl) (fun _ => by kernel_rfl); obtain ⟨z0, z1⟩ := (HA.out.below hSw hb1l).cells.c2; simp only [Nat.zero_add] at z1; go_simp
  try simp only [Act.put, List.getElem_toArray, List.getElem_cons_succ, List.getElem_cons_zero, List.setIfInBounds_toArray, List.set_cons_zero, List.set_cons_succ]
  refine wpAnyH_take (i := 6) (v := .agg #[.slice acb cols.length ccb, .slice alb l.length clb]) rfl (by kernel_rfl) (by kernel_rfl) (by kernel_rfl) (fun _ _ _ h => h) (Or.inl ⟨by rfl, ?_⟩) hHeld ?_
  · intro w' hSw; have kx := (HBb.out.below hSw hz0).cells.runVar (P := Try.prog) (t := 53) (fun _ => by kernel_rfl) (fun _ => by kernel_rfl); obtain ⟨z0, z1⟩ := (HBb.out.below hSw hz0).cells.c2; simp only [Nat.zero_add] at z1; go_simp
  try simp only [Act.put, List.getElem_toArray, List.getElem_cons_succ, List.getElem_cons_zero, List.setIfInBounds_toArray, List.set_cons_zero, List.set_cons_succ]
  refine wpAnyH_ready (rs := [5]) (by kernel_rfl) (by simp) ?_
  refine allCall (f := 32) (args := #[.agg #[.slice aca cols.length cca, .slice ala l.length cla]]) rfl (by kernel_rfl) (by kernel_rfl) ?_ AllReadyH.nil
  refine ref_any _ _ _ _ _ _ w0.drew _ (fun wq1 hB => ?_)
  refine ⟨_, rfl, hHeld.trans (hB.mono hHeld.size), ?_⟩
  have hHeld2 := hHeld.trans (hB.mono hHeld.size)
  clear hHeld
  have hHeld := hHeld2
  clear hHeld2
  clear hB
  try simp only [Act.put, List.getElem_toArray, List.getElem_cons_succ, List.getElem_cons_zero, List.setIfInBounds_toArray, List.set_cons_zero, List.set_cons_succ]
  refine wpAnyH_ready (rs := [7]) (by kernel_rfl) (by simp) ?_
  refine allCall (f := 56) (args := #[.agg #[.slice aca cols.length cca, .slice ala l.length cla], .agg #[.slice acb cols.length ccb, .slice alb l.length clb]]) rfl (by kernel_rfl) (by kernel_rfl) ?_ AllReadyH.nil
  refine Same_any lo w.heap.size lo2 hi2 lo w.heap.size lc2 hc2 cols l _ _ _ _ wq1 (Sl.below HCa.out Strs.loc (HB0.out.trans (hHeld.mono (by omega))) (Nat.le_refl _)) (Sl.below HCb.out Strs.loc (HB0.out.trans (hHeld.mono (by omega))) h2) (Sl.below HLa.out rowE_loc (HB0.out.trans (hHeld.mono (by omega))) (Nat.le_refl _)) (Sl.below HLb.out rowE_loc (HB0.out.trans (hHeld.mono (by omega))) h4) (by have := hHeld.size; omega) (by have := hHeld.size; omega) (by have := hHeld.size; omega) (by have := hHeld.size; omega) Hrs.out _ (fun wq2 hB => ?_)
  refine ⟨_, rfl, hHeld.trans (hB.mono hHeld.size), ?_⟩
  have hHeld2 := hHeld.trans (hB.mono hHeld.size)
  clear hHeld
  have hHeld := hHeld2
  clear hHeld2
  clear hB
  try simp only [Act.put, List.getElem_toArray, List.getElem_cons_succ, List.getElem_cons_zero, List.setIfInBounds_toArray, List.set_cons_zero, List.set_cons_succ]
  refine wpAnyH_take (i := 8) (v := .bool true) rfl (by kernel_rfl) (by kernel_rfl) (by kernel_rfl) (fun _ _ _ h => h) (Or.inl ⟨by rfl, ?_⟩) hHeld ?_
  · intro w' hSw; go_simp
  try simp only [Act.put, List.getElem_toArray, List.getElem_cons_succ, List.getElem_cons_zero, List.setIfInBounds_toArray, List.set_cons_zero, List.set_cons_succ]
  refine wpAnyH_take (i := 9) (v := .bool true) rfl (by kernel_rfl) (by kernel_rfl) (by kernel_rfl) (fun _ _ _ h => h) (Or.inl ⟨by rfl, ?_⟩) hHeld ?_
  · intro w' hSw; go_simp
  try simp only [Act.put, List.getElem_toArray, List.getElem_cons_succ, List.getElem_cons_zero, List.setIfInBounds_toArray, List.set_cons_zero, List.set_cons_succ]
  have HH2 := Lib.hid hHeld
  refine wpAnyH_done (by kernel_rfl) ?_ _
  clear hHeld
  have hBq := HB0.out.trans (HH2.out.mono (by omega))
  have T0 : ToldIn lo w.heap.size w wq2 hs (l.map List.length) (.slice ala l.length cla) (.slice aca cols.length cca) cols.length :=
    ⟨Own.kept OLa.out.own hBq, by rw [List.length_map]; exact OLa.out.len, fun i h h2 => by
      rw [List.getElem_map]
      exact (Shp.ofOwn (OLa.out.row i h (by simpa using h2))).below hBq (Nat.le_refl _), (Shp.ofOwn OCa.out).below hBq (Nat.le_refl _), HA.out.below HH2.out hb1l, hBq.mono hlo, Below.only hBq⟩
  have HT0 := Lib.hid T0
  obtain ⟨d0, d1⟩ := T0.box.cells.c2
  simp only [Nat.zero_add] at d1
  have hml := HLa.out.len
  have hql := HCa.out.len
  clear hBq T0
  go_wp2_with fail
  go_loopw [25] (fun t25 wr => ∃ k : Nat, k ≤ l.length ∧ t25 = .int .i64 k ∧ ToldIn lo w.heap.size w wr hs (l.map List.length) (.slice ala l.length cla) (.slice aca cols.length cca) cols.length) (fun t25 _ => l.length - (intOf t25).toNat)
  case atStart => exact ⟨0, Nat.zero_le _, rfl, HT0.out⟩
  case round =>
    clear d0 d1
    obtain ⟨k, hk, rfl, hT⟩ := hrel
    obtain ⟨wo, ewo⟩ : ∃ x, x = wr := ⟨_, rfl⟩
    subst ewo
    have HT := Lib.hid hT
    have kk0 : (0 : Int) ≤ (k : Int) := by omega
    obtain ⟨d0, d1⟩ := hT.box.cells.c2
    simp only [Nat.zero_add] at d1
    clear hT
    by_cases hlt : k < l.length
    · have kkl : (k : Int) < (l.length : Int) := by omega
      have hkh : k < hs.length := by rw [OLa.out.len]; exact hlt
      obtain ⟨ao', cap', e', -, -, -, hc⟩ := (OwnH.sl HT.out.own).form
      injection e' with e1 e2 e3
      subst e1 e3
      obtain ⟨b, off, rfl, hb1, hb2, hcc⟩ := hc k hkh
      clear hcc hc e2
      obtain ⟨p, cp, ep⟩ := Own.slice (OLa.out.row k hkh hlt)
      have hnl := (OwnV.sl (OLa.out.row k hkh hlt)).len
      have Htb : Hid (∀ q, (Value.slice p l[k].length cp).ownBlock = some q → TB (.slice aca cols.length cca) hs q) := Lib.hid (fun q hq => .inr ⟨hs[k], List.getElem_mem hkh, by rw [ep]; exact hq⟩)
      have Hap : Hid (∀ q, (Value.slice p l[k].length cp).ownBlock = some q → (Value.slice (some ⟨b, off, none⟩) l.length cla).ownBlock ≠ some q) := Lib.hid (by rw [← ep]; exact OLa.out.apart k hkh)
      have Hhead : Hid (∀ wr', ToldIn lo w.heap.size w wr' hs (l.map List.length) (.slice (some ⟨b, off, none⟩) l.length cla) (.slice aca cols.length cca) cols.length → wr'.cell? ⟨b, off + k, none⟩ = some (.slice p l[k].length cp)) := Lib.hid (fun wr' h => by
        obtain ⟨ao', cap', e', -, -, -, hc⟩ := (OwnH.sl h.own).form
        injection e' with e1 e2 e3
        obtain ⟨b', off', e4, -, -, hcc⟩ := hc k hkh
        rw [e4] at e1
        injection e1 with e1
        injection e1 with e5 e6
        subst e5 e6
        obtain ⟨cs, _, hcs, rfl⟩ := hcc k hkh
        have g0 := hcs.c1
        rw [Nat.mul_one, ep] at g0
        exact g0)
      have Hrow : Hid (∀ wr', ToldIn lo w.heap.size w wr' hs (l.map List.length) (.slice (some ⟨b, off, none⟩) l.length cla) (.slice aca cols.length cca) cols.length → Shp 24 3 lo w.heap.size wr' (.slice p l[k].length cp) l[k].length) := Lib.hid (fun wr' h => by
        have := h.row k hkh (by rw [List.length_map]; exact hlt)
        rw [List.getElem_map, ep] at this
        exact this)
      have g0 := Hhead.out _ HT.out
      clear ep
      generalize l[k].length = n at *
      go_wp2_with fail
      go_loopw [34] (fun t34 wr => ∃ j : Nat, j ≤ n ∧ t34 = .int .i64 j ∧ ToldIn lo w.heap.size w wr hs (l.map List.length) (.slice (some ⟨b, off, none⟩) l.length cla) (.slice aca cols.length cca) cols.length) (fun t34 _ => n - (intOf t34).toNat)
      case atStart => exact ⟨0, Nat.zero_le _, rfl, HT.out⟩
      case round =>
        clear d0 d1 g0 HT
        obtain ⟨j, hj, rfl, hT⟩ := hrel
        obtain ⟨wi, ewi⟩ : ∃ x, x = wr := ⟨_, rfl⟩
        subst ewi
        have HT := Lib.hid hT
        have jj0 : (0 : Int) ≤ (j : Int) := by omega
        obtain ⟨d0, d1⟩ := hT.box.cells.c2
        simp only [Nat.zero_add] at d1
        have g0 := Hhead.out _ hT
        clear hT
        by_cases hjt : j < n
        · have jjl : (j : Int) < (n : Int) := by omega
          obtain ⟨g, cap, ev, q1, q2, q3, q4, q5, q6⟩ := (Hrow.out _ HT.out).cell hjt
          injection ev with ev1 ev2 ev3
          subst ev1 ev3
          obtain ⟨u0, hu0⟩ := q5 0 (by omega)
          obtain ⟨u1, hu1⟩ := q5 1 (by omega)
          obtain ⟨u2, hu2⟩ := q5 2 (by omega)
          rw [Nat.add_zero] at hu0
          have hf0 := q6 (j * 3)
          have hf1 := q6 (j * 3 + 1)
          have hf2 := q6 (j * 3 + 2)
          have HTn := Lib.hid (((HT.out.set (b := g) (i := j * 3) (.int .i64 99) q1 q2 (Hap.out g rfl) (Htb.out g rfl)).set (b := g) (i := j * 3 + 1) (.int .i64 0) q1 q2 (Hap.out g rfl) (Htb.out g rfl)).set (b := g) (i := j * 3 + 2) (.string ⟨#[]⟩) q1 q2 (Hap.out g rfl) (Htb.out g rfl))
          clear q5 q6
          go_wp2_with fail
          go_roundw
          case rel => exact ⟨j + 1, by omega, by go_num, HTn.out⟩
          case measure => simp [intOf]; omega
        · obtain rfl : j = n := by omega
          have nln : ¬ ((j : Nat) : Int) < (j : Int) := by omega
          go_wp2_with fail
          go_roundw
          case rel => exact ⟨k + 1, by omega, by go_num, HT.out⟩
          case measure => simp [intOf]; omega
    · obtain rfl : k = l.length := by omega
      have llt : ¬ ((l.length : Nat) : Int) < (l.length : Int) := by omega
      go_wp2_with fail
      go_loopw [50] (fun t50 wr => ∃ k : Nat, k ≤ cols.length ∧ t50 = .int .i64 k ∧ ToldIn lo w.heap.size w wr hs (l.map List.length) (.slice ala l.length cla) (.slice aca cols.length cca) cols.length) (fun t50 _ => cols.length - (intOf t50).toNat)
      case atStart => exact ⟨0, Nat.zero_le _, rfl, HT.out⟩
      case round =>
        clear d0 d1 HT kk0
        obtain ⟨k, hk, rfl, hT⟩ := hrel
        obtain ⟨wo, ewo⟩ : ∃ x, x = wr := ⟨_, rfl⟩
        subst ewo
        have HT := Lib.hid hT
        have kk0 : (0 : Int) ≤ (k : Int) := by omega
        obtain ⟨d0, d1⟩ := hT.box.cells.c2
        simp only [Nat.zero_add] at d1
        clear hT
        by_cases hlt : k < cols.length
        · have kkl : (k : Int) < (cols.length : Int) := by omega
          obtain ⟨g, cap, ev, g1, g2, g3, g4, g5, g6⟩ := HT.out.col.cell hlt
          injection ev with ev1 ev2 ev3
          subst ev1 ev3
          obtain ⟨u, hu⟩ := g5 0 (by omega)
          rw [Nat.mul_one, Nat.add_zero] at hu
          have hfz := g6 k
          have HTn := Lib.hid (HT.out.set (b := g) (i := k) (.string ⟨#[115, 112, 111, 105, 108, 116]⟩) g1 g2 (fun e => Own.apartT OLa.out.own OCa.out (by decide) e rfl) (.inl rfl))
          clear g5 g6
          go_wp2_with fail
          go_roundw
          case rel => exact ⟨k + 1, by omega, by go_num, HTn.out⟩
          case measure => simp [intOf]; omega
        · obtain rfl : k = cols.length := by omega
          have llt : ¬ ((cols.length : Nat) : Int) < (cols.length : Int) := by omega
          have hr := HR.out _ HT.out.bel HT.out.only
          go_wp2_with fail
          first | exact hr | exact fin hr rfl
theorem told_any (lo lo2 hi2 lc2 hc2 : Nat) (cols : List S) (l : List (List V)) (hs : List Value) (ca cb la lb : Value) (e : Int) (w : World) (hlo : lo ≤ w.heap.size) (hca : OwnT lo w ca cols) (hcb : Strs lc2 hc2 w cb cols) (hla : OwnR lo w la hs l) (hlb : Rws lo2 hi2 w lb l) (h2 : hc2 ≤ w.heap.size) (h4 : hi2 ≤ w.heap.size) (hrs : ∀ x ∈ l, ∀ a ∈ x, a.s.length ≤ 9223372036854775807) (R : Ending → World → Prop)
    (hR : ∀ w', Below lo w w' → R (.returned (.bool true)) w') : Calls Try.prog 28 #[.agg #[ca, la], .int .i64 e, .agg #[cb, lb], .int .i64 e] w R :=
  toldO_any lo lo2 hi2 lc2 hc2 cols l hs ca cb la lb e w hlo hca hcb hla hlb h2 h4 hrs R (fun w' h _ => hR w' h)
/-- A block of relations is not written over. -/
theorem TB.not {lo : Nat} {w : World} {ca la : Value} {hs : List Value} {cols : List S} {l : List (List V)} (hT : OwnT lo w ca cols) (hR : OwnR lo w la hs l) {b : Nat} {cs : List Value} {t : TypeId} (hb : Blk w b cs t) (h1 : t ≠ 9) (h2 : t ≠ 24) : ¬ TB ca hs b := by
  rintro (h | ⟨h, hh, e⟩)
  · exact Own.ne_blk hT hb h1 h
  · obtain ⟨i, hi, rfl⟩ := List.getElem_of_mem hh
    exact Own.ne_blk (hR.row i hi (by rw [← hR.len]; exact hi)) hb h2 e
end Go.Proofs.Ytpncblagjkbemaa
