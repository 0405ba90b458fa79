/- Texts that the proofs of PullTells stand on, part 5. -/
import Derived.Test.YticbhfmpnmolcaaKPullTells4
/- The document's leaves, a tree's contract given. (Printed by pulm.py.) -/
section
set_option linter.unusedVariables false
set_option linter.unusedSimpArgs false
namespace Go.Proofs.Yticbhfmpnmolcaa
open Go.RowKit
set_option linter.unusedVariables false
set_option linter.unusedSimpArgs false
/-- What a walk may be given: a pattern that may be, few attributes of different names, leaves yet to come. -/
structure Fit (fs : List Ft) (ats : List Attr) (d : Nat) (n : Int) (path : List Int) : Prop where
  fsl : fs.length ≤ 2000000000000
  atl : ats.length ≤ 50
  names : ats.Pairwise fun a b => a.name ≠ b.name
  lns : ∀ a ∈ ats, a.name.length ≤ 281474976710656
  n0 : 0 ≤ n
  n1 : n ≤ 10000
  d0 : 10001 ≤ n + d
  d1 : d ≤ 10001
  pth : path.length + d ≤ 20000
/-- What comes of a tree: where too many leaves are told, it is not said which. -/
def TOut (d lo : Nat) (w' : World) (n n' : Int) (v : Value) (t : Tr d) : Prop :=
  n ≤ n' ∧ n' ≤ 10001 + (d : Int) ∧ (n + (Tr.size d t : Nat) ≤ 10000 → n' = n + (Tr.size d t : Nat) ∧ TrIn d lo w'.heap.size w' v t) ∧ (10000 < n + (Tr.size d t : Nat) → 10000 < n')
def LOut (d lo : Nat) (w' : World) (n n' : Int) (v : Value) (l : List (Lf (Tr d))) : Prop :=
  n ≤ n' ∧ n' ≤ 10001 + ((d + 1 : Nat) : Int) ∧ (n + (lfsSize (Tr.size d) l : Nat) ≤ 10000 → n' = n + (lfsSize (Tr.size d) l : Nat) ∧ Sl (lfE (TrIn d)) 5 lo w'.heap.size w' v l) ∧ (10000 < n + (lfsSize (Tr.size d) l : Nat) → 10000 < n')
/-- The document's tree, so deep at most. -/
def RTree (d : Nat) : Prop := ∀ (B hA D lo hi lo2 hi2 : Nat) (lv av : Value) (fs : List Ft) (ats : List Attr) (n e : Int) (ps : List IH) (path : List Int) (v pv : Value) (w : World),
  PulR B hA w lv av fs ats n → Pat B D lo hi w v ps → Pth B lo2 hi2 w pv path → Fit fs ats d n path → finePat (ps.map (·.1)) = true → ∀ (R : Ending → World → Prop),
  (∀ w' n' a l c, Only (· = B) w w' → Blk w' B [lv, av, .int .i64 n'] 57 → TOut d w.heap.size w' n n' (.slice a l c) (treeP fs ats d e (ps.map (·.1)) path) → R (.returned (.slice a l c)) w') →
  Calls Try.prog 20 #[.pointer (some ⟨B, 0, none⟩), .int .i64 e, v, pv] w R
theorem leaf_run {w : World} {b o : Nat} {x0 x1 x2 x3 x4 : Value} (h : CellsAt w b o [x0, x1, x2, x3, x4]) : (loadVar 64 ⟨b, o, none⟩).run Try.prog w = .ok (.agg #[x0, x1, x2, x3, x4]) w := h.runVar (P := Try.prog) (t := 64) (fun _ => by kernel_rfl) (fun _ => by kernel_rfl)
theorem value_cells {w : World} {b o : Nat} {x0 x1 x2 : Value} (h : CellsAt w b o [x0, x1, x2]) : w.cell? ⟨b, o, none⟩ = some x0 ∧ w.cell? ⟨b, o + 1, none⟩ = some x1 ∧ w.cell? ⟨b, o + 2, none⟩ = some x2 := branch_cells h
theorem leafP_plain {d : Nat} {T : Int → List It → List Int → Tr d} {x : It} {p : List It} {path : List Int} {v : V} (h : v.kind ≠ 5 ∨ withinP x p v.n path = none) : leafP d T x p path v = (v, false, Tr.none d) := by
  unfold leafP
  split
  · rename_i h5
    rcases h with h | h
    · exact absurd h5 h
    · rw [h]
  · rfl
theorem leafP_in {d : Nat} {T : Int → List It → List Int → Tr d} {x : It} {p sub : List It} {path : List Int} {v : V} (h5 : v.kind = 5) (h : withinP x p v.n path = some sub) : leafP d T x p path v = (v, true, T v.n sub (path ++ [v.n])) := by
  unfold leafP
  rw [if_pos h5, h]
theorem size_none (d : Nat) : Tr.size d (Tr.none d) = 0 := by
  cases d with
  | zero => rfl
  | succ d => simp [Tr.none, Tr.size, brsSize]
theorem lfs_mono {T : Type} (sz : T → Nat) {l : List (Lf T)} {k : Nat} (hk : k < l.length) : lfsSize sz (l.take k) + 1 + sz l[k].2.2 ≤ lfsSize sz l := by
  have h1 := lfs_take sz hk
  have h2 := lfs_take_le sz l (k + 1)
  omega
theorem one_apart {x : It} (h : itOne x = true) (hw : x.wild = false) : (x.nested = true → x.rc = 0) ∧ -1 ≤ x.rc ∧ x.rc ≤ 100 := by
  obtain ⟨wild, attr, back, limit, has, dflt, nested, sub, rc⟩ := x
  simp only at hw ⊢
  subst hw
  unfold itOne at h
  simp only [Bool.false_eq_true, if_false] at h
  by_cases hr : rc = 0
  · subst hr; simp
  · cases has <;> cases nested <;> simp [hr] at h ⊢
    · omega
theorem leaves_step {d : Nat} {pl : List (Lf (Tr d))} {qs : List (LH (Tr d))} {k : Nat} {n n1 n2 : Int} {P0 P1 : Nat} {U : Lf (Tr d)} {q : LH (Tr d)} {C : Prop} (hP1 : P1 = P0 + (1 + Tr.size d U.2.2)) (h1 : n1 = n + P0) (hq : qs.map (·.1) = pl.take k) (hpk : pl.take (k + 1) = pl.take k ++ [U]) (hqU : q.1 = U)
    (h2 : n1 + 1 + (Tr.size d U.2.2 : Nat) ≤ 10000 → n2 = n1 + 1 + (Tr.size d U.2.2 : Nat) ∧ C) (h3 : 10000 < n1 + 1 + (Tr.size d U.2.2 : Nat) → 10000 < n2) :
    (n + P1 ≤ 10000 → n2 = n + P1 ∧ (qs ++ [q]).map (·.1) = pl.take (k + 1) ∧ C) ∧ (10000 < n + P1 → 10000 < n2) := by
  refine ⟨fun h => ?_, fun h => h3 (by omega)⟩
  obtain ⟨k1, k2⟩ := h2 (by omega)
  exact ⟨by omega, by rw [List.map_append, hq, hpk, List.map_singleton, hqU], k2⟩
theorem itE_rc {D lo hi : Nat} {w : World} {x : It} {h : Option Addr × Nat} {r : Int} (hx : itE D lo hi w (IH.enc (x, h)) x) : itE D lo hi w (IH.enc ({ x with rc := r }, h)) { x with rc := r } := by
  cases D with
  | zero => exact hx.elim
  | succ D =>
    obtain ⟨hl, sv, e, hs⟩ := hx
    have e2 : sv = .slice h.1 x.sub.length h.2 := by
      have e3 := congrArg (fun l => l[9]?) e
      simpa [IH.enc, It.encH] using e3.symm
    exact ⟨hl, sv, by rw [e2]; rfl, hs⟩
theorem cutP_len (x : It) (vs : List V) : (cutP x vs).length ≤ vs.length := by
  unfold cutP
  split
  · rw [List.length_take]; omega
  · exact Nat.le_refl _
theorem onlySet (w : World) (B o : Nat) (u : Value) : Only (· = B) w (w.setCell ⟨B, o, none⟩ u) := Only.setCell (A := (· = B)) w (p := ⟨B, o, none⟩) rfl u
theorem allL_same : ∀ {l m : List It}, l.map It.sub = m.map It.sub → allL l = allL m
  | [], [], _ => rfl
  | [], _ :: _, h => by simp at h
  | _ :: _, [], h => by simp at h
  | x :: l, y :: m, h => by
    rw [List.map_cons, List.map_cons] at h
    injection h with h1 h2
    rw [allL, allL, It.all_eq, It.all_eq, h1, allL_same h2]
theorem lessP_sub (x : It) (p : List It) : (lessP x p).map It.sub = p.map It.sub := by
  unfold lessP
  rw [List.map_map]
  refine List.map_congr_left (fun y _ => ?_)
  simp only [Function.comp]
  split <;> rfl
set_option maxRecDepth 100000 in
set_option maxHeartbeats 16000000 in
theorem refLeaves_any (d : Nat) (hT : RTree d) (B hA D lo hi lo2 hi2 : Nat) (lv av : Value) (fs : List Ft) (ats : List Attr) (n e : Int) (ps : List IH) (j : Nat) (path : List Int) (v pv : Value) (w : World)
    (hP : PulR B hA w lv av fs ats n) (hp : Pat B D lo hi w v ps) (hpa : Pth B lo2 hi2 w pv path) (hF : Fit fs ats (d + 1) n path) (hj : j < ps.length) (hw : ps[j].1.wild = false) (hfine : finePat (ps.map (·.1)) = true ∨ (ps[j].1.nested = false ∧ ps[j].1.rc = 0)) (R : Ending → World → Prop)
    (hR : ∀ w' n' a l c, Only (· = B) w w' → Blk w' B [lv, av, .int .i64 n'] 57 → LOut d w.heap.size w' n n' (.slice a l c) (leavesP fs ats d (treeP fs ats d) e ps[j].1 (ps.map (·.1)) path) → R (.returned (.slice a l c)) w') :
    Calls Try.prog 32 #[.pointer (some ⟨B, 0, none⟩), .int .i64 e, v, .int .i64 j, pv] w R := by
  have HR := Lib.hid hR
  have HP := Lib.hid hP
  have Hp := Lib.hid hp
  have Hpa := Lib.hid hpa
  have HF := Lib.hid hF
  have hn0 := hF.n0
  have hn1 := hF.n1
  have hd1 := hF.d1
  have hplen := hp.len
  have hp63 := hp.sl.len
  obtain ⟨ap, cp, rfl, -, -, -, hc⟩ := hp.sl.form
  obtain ⟨aq, cq, rfl, -⟩ := hpa.sl.form
  obtain ⟨b, off, rfl, hb1, hb2, hcc⟩ := hc j hj
  obtain ⟨cs, -, hcs, e4⟩ := hcc j hj
  have e5 : cs = IH.enc ps[j] := e4
  rw [e5] at hcs
  have hmem : ps[j] ∈ ps := List.getElem_mem hj
  have Hlens := Lib.hid (hp.lens hmem)
  have Hin : Hid (∀ w', Pat B D lo hi w' (.slice (some ⟨b, off, none⟩) ps.length cp) ps → ∃ D' qs, qs.map (·.1) = ps[j].1.sub ∧ Pat B D' 0 B w' (.slice ps[j].2.1 ps[j].1.sub.length ps[j].2.2) qs) := Lib.hid (fun w' h => h.within hmem)
  have Hone : Hid ((ps[j].1.nested = true → ps[j].1.rc = 0) ∧ -1 ≤ ps[j].1.rc ∧ ps[j].1.rc ≤ 100) := Lib.hid (by
    rcases hfine with h | ⟨h1, h2⟩
    · exact one_apart (fine_one h (List.mem_map.2 ⟨_, hmem, rfl⟩ : ps[j].1 ∈ ps.map (·.1))) hw
    · rw [h2]; exact ⟨fun _ => rfl, by decide, by decide⟩)
  have Hsubf : Hid (ps[j].1.nested = true → finePat ps[j].1.sub = true) := Lib.hid (fun h => by
    rcases hfine with hf | ⟨h1, -⟩
    · exact sub_fine hf (List.mem_map.2 ⟨_, hmem, rfl⟩) h
    · rw [h1] at h; cases h)
  have Hfine : Hid (ps[j].1.rc ≠ 0 → finePat (ps.map (·.1)) = true) := Lib.hid (fun h => by
    rcases hfine with hf | ⟨-, h2⟩
    · exact hf
    · exact absurd h2 h)
  have Hless : Hid (ps[j].1.rc ≠ 0 → lessP ps[j].1 (ps.map (·.1)) = (ps.set j ({ ps[j].1 with rc := ps[j].1.rc - 1 }, ps[j].2)).map (·.1)) := Lib.hid (fun h => by
    have hl : listOk (ps.map (·.1)) = true := by have := Hfine.out h; unfold finePat at this; rw [Bool.and_eq_true] at this; exact this.1
    have := less_at hl (j := j) (by simpa using hj) (by simpa using hw)
    simp only [List.getElem_map] at this
    rw [this, List.map_set])
  have Hlessf : Hid (0 < ps[j].1.rc → finePat (lessP ps[j].1 (ps.map (·.1))) = true) := Lib.hid (fun h => by
    have := less_fine (Hfine.out (by omega)) (j := j) (by simpa using hj) (by simpa using hw) (by simpa using h)
    simpa only [List.getElem_map] using this)
  have Hps : Hid (∃ y, ps[j] = y) := Lib.hid ⟨_, rfl⟩
  have Hsub : Hid (∀ w', IHs lo hi w' (.slice (some ⟨b, off, none⟩) ps.length cp) ps → (∃ s2, True)) := Lib.hid (fun _ _ => ⟨(), trivial⟩)
  clear hR hP hp hpa hF hfine hc hcc e4 e5 hmem hb1 hb2 Hps Hsub
  generalize hy : ps[j] = y at *
  have Hy := Lib.hid hy
  clear hy
  obtain ⟨x, xp, xc⟩ := y
  simp only at Hlens Hin Hone Hsubf Hfine Hless Hlessf hw HR
  have Hw := Lib.hid hw
  clear hw
  have hcs2 : CellsAt w b (off + j * 11) [.bool x.wild, .string ⟨x.attr.toArray⟩, .bool x.back, .int .i64 x.limit, .bool x.has, .int .i64 x.dflt.kind, .int .i64 x.dflt.n, .string ⟨x.dflt.s.toArray⟩, .bool x.nested, .slice xp x.sub.length xc, .int .i64 x.rc] := hcs
  have hjl : (j : Int) < (ps.length : Int) := by omega
  have hj0 : (0 : Int) ≤ (j : Int) := by omega
  obtain ⟨kx0, kx1, kx2, kx3, kx4, kx5, kx6, kx7, kx8, kx9, kx10⟩ := item_cells hcs2
  have hBx := alloc_below w (.cells #[.bool x.wild, .string ⟨x.attr.toArray⟩, .bool x.back, .int .i64 x.limit, .bool x.has, .int .i64 x.dflt.kind, .int .i64 x.dflt.n, .string ⟨x.dflt.s.toArray⟩, .bool x.nested, .slice xp x.sub.length xc, .int .i64 x.rc] 66)
  have hbx := Blk.new w [.bool x.wild, .string ⟨x.attr.toArray⟩, .bool x.back, .int .i64 x.limit, .bool x.has, .int .i64 x.dflt.kind, .int .i64 x.dflt.n, .string ⟨x.dflt.s.toArray⟩, .bool x.nested, .slice xp x.sub.length xc, .int .i64 x.rc] 66 rfl
  clear hcs hcs2
  go_enter Try.func32, Try.ntmps32
  go_upto_region 2 with fail
  generalize w.alloc (.cells #[.bool x.wild, .string ⟨x.attr.toArray⟩, .bool x.back, .int .i64 x.limit, .bool x.has, .int .i64 x.dflt.kind, .int .i64 x.dflt.n, .string ⟨x.dflt.s.toArray⟩, .bool x.nested, .slice xp x.sub.length xc, .int .i64 x.rc] 66) = w1 at *
  obtain ⟨bx, ebx⟩ : ∃ b, b = w.heap.size := ⟨_, rfl⟩
  rw [← ebx] at hbx ⊢
  have HBx := Lib.hid hBx
  have Hbx := Lib.hid hbx
  have hz1 := hBx.size
  have hBb := HP.out.blk.lt
  have hbx0 : B < bx := by omega
  have HP1 := Lib.hid (HP.out.below hBx)
  obtain ⟨kx0', kx1', kx2', kx3', kx4', kx5', kx6', kx7', kx8', kx9', kx10'⟩ := item_cells hbx.cells
  simp only [Nat.zero_add] at kx1' kx2' kx3' kx4' kx5' kx6' kx7' kx8' kx9' kx10'
  clear hbx hBx ebx kx0 kx1 kx2 kx3 kx4 kx5 kx6 kx7 kx8 kx9 kx10
  go_wp2_with fail
  refine refValues_any B hA lv av fs ats n e x xp xc w1 HP1.out Hlens.out HF.out.fsl _ (fun w2 v2 hB2 hv2 => ?_)
  have hz2 := hB2.size
  have HO2 : Hid (Only (· = B) w w2) := Lib.hid ((Below.only HBx.out).trans (Below.only hB2))
  have HP2 := Lib.hid (HP1.out.below hB2)
  have Hp2 := Lib.hid (Hp.out.turn HO2.out)
  have Hpa2 := Lib.hid (Hpa.out.turn HO2.out)
  have Hx2 := Lib.hid (Hbx.out.below hB2 Hbx.out.lt)
  obtain ⟨vs, hvs⟩ : ∃ vs, vs = cutP x (valuesP fs ats e x) := ⟨_, rfl⟩
  rw [← hvs] at hv2
  have Hvs := Lib.hid hvs
  have Hv2 := Lib.hid hv2
  have hv63 := hv2.len
  obtain ⟨a2, c2, rfl, -⟩ := hv2.form
  obtain ⟨pl, hpl⟩ : ∃ pl, pl = vs.map (leafP d (treeP fs ats d) x (ps.map (·.1)) path) := ⟨_, rfl⟩
  have Hpl := Lib.hid hpl
  have hpll : pl.length = vs.length := by rw [hpl, List.length_map]
  have Hpll := Lib.hid hpll
  obtain ⟨nv, hnv⟩ : ∃ nv, nv = vs.length := ⟨_, rfl⟩
  rw [← hnv]
  rw [← hnv] at hv63
  have hvl : nv ≤ 2000000000000 := by have h1 := cutP_len x (valuesP fs ats e x); have h2 := valuesP_len fs ats e x; have h3 := HF.out.fsl; rw [← Hvs.out] at h1; omega
  have Hnv := Lib.hid hnv
  have hBz2 : B < w2.heap.size := by omega
  clear hv2 hvs hpl hpll hnv hB2 kx0' kx1' kx2' kx3' kx4' kx5' kx6' kx7' kx8' kx9' kx10'
  go_wp2_with fail
  go_loopw [13, 14] (fun t13 t14 wr => ∃ (k : Nat) (n1 : Int) (qs : List (LH (Tr d))), k ≤ nv ∧ t14 = .int .i64 k ∧ Only (· = B) w2 wr ∧ Blk wr B [lv, av, .int .i64 n1] 57 ∧ OwnL (Tr d) w2.heap.size wr t13 qs ∧ qs.length = k ∧ n ≤ n1 ∧ n1 ≤ 10001 + (d : Int) ∧
      Hid (n + (lfsSize (Tr.size d) (pl.take k) : Nat) ≤ 10000 → n1 = n + (lfsSize (Tr.size d) (pl.take k) : Nat) ∧ qs.map (·.1) = pl.take k ∧ KeptAt (LfF d) w2.heap.size wr t13 qs) ∧ Hid (10000 < n + (lfsSize (Tr.size d) (pl.take k) : Nat) → 10000 < n1)) (fun _ t14 _ => nv - (intOf t14).toNat)
  case atStart => exact ⟨0, n, [], Nat.zero_le _, rfl, Only.refl _ _, HP2.out.blk, Own.nil _ _ _ _ _, rfl, Int.le_refl _, by omega, Lib.hid (fun _ => ⟨by simp [lfsSize], by simp, KeptAt.nil⟩), Lib.hid (fun h => by simp [lfsSize] at h; omega)⟩
  case round =>
    obtain ⟨k, n1, qs, hk, rfl, hO, hblk, ho, hqk, hnn, hnd, Hg, Hb⟩ := hrel
    obtain ⟨wo, ewo⟩ : ∃ x, x = wr := ⟨_, rfl⟩
    subst ewo
    have HO := Lib.hid hO
    have Hblk := Lib.hid hblk
    have Ho := Lib.hid ho
    have Hqk := Lib.hid hqk
    have hz := hO.size
    have kk0 : (0 : Int) ≤ (k : Int) := by omega
    obtain ⟨p13, q13, e13⟩ := Own.slice ho
    subst e13
    have Hx3 := Lib.hid (HO.out.blk Hx2.out (by omega))
    have y2 := hblk.cells 2 _ rfl
    simp only [Nat.zero_add] at y2
    have yl := hblk.lt
    have yf := hblk.free 2
    clear hO hblk ho hqk
    by_cases hlt : k < nv
    · have kkl : (k : Int) < (nv : Int) := by omega
      have hn63 : IntKind.i64.wrap (n1 + 1) = n1 + 1 := wrapIn (by omega) (by omega)
      have hkp : k < pl.length := by have := Hpll.out; have := Hnv.out; omega
      have hkv : k < vs.length := by have := Hnv.out; omega
      have Hmo := Lib.hid (lfs_mono (Tr.size d) hkp)
      have Hstep := Lib.hid (lfs_take (Tr.size d) hkp)
      have Hpk : Hid (pl.take (k + 1) = pl.take k ++ [pl[k]]) := Lib.hid (List.take_succ_eq_append_getElem hkp)
      have Hplk : Hid (pl[k] = leafP d (treeP fs ats d) x (ps.map (·.1)) path vs[k]) := Lib.hid (by simp only [Hpl.out, List.getElem_map])
      have Hleaves : Hid (leavesP fs ats d (treeP fs ats d) e x (ps.map (·.1)) path = pl) := Lib.hid (by
        unfold leavesP
        rw [← Hvs.out, if_neg (by intro h; rw [h] at hkv; simp at hkv), Hpl.out])
      obtain ⟨P0, hP0⟩ : ∃ P0, P0 = lfsSize (Tr.size d) (pl.take k) := ⟨_, rfl⟩
      obtain ⟨P1, hP1⟩ : ∃ P1, P1 = lfsSize (Tr.size d) (pl.take (k + 1)) := ⟨_, rfl⟩
      rw [← hP0] at Hg Hb Hmo Hstep
      rw [← hP1] at Hstep
      have HP1' := Lib.hid hP1
      clear hP0 hP1
      by_cases hgr : 10000 < n1 + 1
      · have hBk := Hblk.out.set 2 (.int .i64 (n1 + 1))
        have hr := HR.out (wo.setCell ⟨B, 2, none⟩ (.int .i64 (n1 + 1))) (n1 + 1) none 0 0 (HO2.out.trans (HO.out.trans (onlySet wo B 2 _))) hBk (by
          rw [Hleaves.out]
          have h1 := Hmo.out
          have h2 := Hg.out
          have hbig : 10000 < n + (lfsSize (Tr.size d) pl : Nat) := by
            by_cases h3 : n + (P0 : Nat) ≤ 10000
            · have := (h2 h3).1; omega
            · omega
          exact ⟨by omega, by push_cast; omega, fun h => absurd h (by omega), fun _ => hgr⟩)
        have Hr := Lib.hid hr
        clear hr hBk
        go_wp2_with fail
        first | exact Hr.out | exact fin Hr.out rfl
      · have hng : ¬ (10000 : Int) < n1 + 1 := hgr
        have hP0 : n + (P0 : Nat) ≤ 10000 := by
          by_cases h3 : n + (P0 : Nat) ≤ 10000
          · exact h3
          · have := Hb.out (by omega); omega
        obtain ⟨hn1e, hqs, hlf⟩ := Hg.out hP0
        have Hn1e := Lib.hid hn1e
        have Hqs := Lib.hid hqs
        have Hlf := Lib.hid hlf
        clear hn1e hqs hlf Hg Hb hgr
        -- the value
        obtain ⟨ao', cap', e', -, -, -, hc⟩ := (Sl.agree Hv2.out (flat_loc _) (HO.out.agree (Nat.le_refl _) (fun k e => .inl (by have : k = B := e; omega)))).form
        injection e' with e1 e2 e3
        subst e1 e3
        obtain ⟨bv, ov, rfl, hb1, hb2, hcc⟩ := hc k hkv
        obtain ⟨cs, -, hcs, e4⟩ := hcc k hkv
        have e5 : cs = V.enc vs[k] := e4
        rw [e5] at hcs
        clear hcc hc e4 e5 e2
        have hbvB : B < bv := by omega
        have Hpo := Lib.hid (Hp2.out.turn HO.out)
        have hbvl : bv < wo.heap.size := by omega
        generalize vs[k] = u at *
        generalize pl[k] = U at *
        unfold V.enc at hcs
        have Hcs0 := Lib.hid hcs
        -- the world behind 'x.N++'
        have hBk := Hblk.out.set 2 (.int .i64 (n1 + 1))
        have hO4 : Only (· = B) wo (wo.setCell ⟨B, 2, none⟩ (.int .i64 (n1 + 1))) := onlySet wo B 2 _
        have HBk : Hid (Blk (wo.setCell ⟨B, 2, none⟩ (.int .i64 (n1 + 1))) B [lv, av, .int .i64 (n1 + 1)] 57) := Lib.hid hBk
        have HO4 := Lib.hid hO4
        have Hcs : Hid (CellsAt (wo.setCell ⟨B, 2, none⟩ (.int .i64 (n1 + 1))) bv (ov + k * 3) [.int .i64 u.kind, .int .i64 u.n, .string ⟨u.s.toArray⟩]) := Lib.hid (hcs.agree (lo := bv) (hi := bv + 1) (hO4.agree (by omega) (fun k e => .inl (by have : k = B := e; omega))) (Nat.le_refl _) (by omega))
        have hz4 := hO4.size
        have hbvl4 : bv < (wo.setCell ⟨B, 2, none⟩ (.int .i64 (n1 + 1))).heap.size := by omega
        have hz24 : w2.heap.size ≤ (wo.setCell ⟨B, 2, none⟩ (.int .i64 (n1 + 1))).heap.size := by omega
        clear hcs hBk hO4 hb1 hb2
        go_upto_region 8 with fail
        generalize wo.setCell ⟨B, 2, none⟩ (.int .i64 (n1 + 1)) = w4 at *
        have k2 := HBk.out.cells 2 _ rfl
        obtain ⟨kv0, kv1, kv2⟩ := value_cells Hcs.out
        simp only [Nat.zero_add] at k2
        have hB5 := alloc_below w4 (.cells #[.int .i64 u.kind, .int .i64 u.n, .string ⟨u.s.toArray⟩, .bool false, .slice none 0 0] 64)
        have hb5 := Blk.new w4 [.int .i64 u.kind, .int .i64 u.n, .string ⟨u.s.toArray⟩, .bool false, .slice none 0 0] 64 rfl
        go_upto_region 11 with fail
        generalize w4.alloc (.cells #[.int .i64 u.kind, .int .i64 u.n, .string ⟨u.s.toArray⟩, .bool false, .slice none 0 0] 64) = w5 at *
        obtain ⟨bl, ebl⟩ : ∃ b, b = w4.heap.size := ⟨_, rfl⟩
        rw [← ebl] at hb5 ⊢
        have HO5 := Lib.hid (HO4.out.trans (Below.only hB5))
        have Hbl := Lib.hid hb5
        have HBk5 := Lib.hid (HBk.out.below hB5 HBk.out.lt)
        have Hcs5 := Lib.hid (Hcs.out.agree (lo := bv) (hi := bv + 1) (.below hB5 (by omega)) (Nat.le_refl _) (by omega))
        have hz5 := hB5.size
        have hbl0 : wo.heap.size ≤ bl := by omega
        have hbll : bl < w5.heap.size := hb5.lt
        clear kv0 kv1 kv2
        obtain ⟨kv0, kv1, kv2⟩ := value_cells Hcs5.out
        have Hx5 := Lib.hid (HO5.out.blk Hx3.out (by omega))
        obtain ⟨x0, x1, x2, x3, x4, x5, x6, x7, x8, x9, x10⟩ := item_cells Hx5.out.cells
        simp only [Nat.zero_add] at x8 x9 x10
        have HU : Hid (U = leafP d (treeP fs ats d) x (ps.map (·.1)) path u) := Hplk
        clear hB5 hb5 ebl k2 x0 x1 x2 x3 x4 x5 x6 x7 y2 yl yf kv2 hz4 hbvl4 hz24 Hblk
        by_cases h5 : u.kind = 5
        · obtain ⟨hone1, hone2, hone3⟩ := Hone.out
          obtain ⟨nb, hnb⟩ : ∃ nb, nb = x.nested := ⟨_, rfl⟩
          rw [← hnb] at x8
          have Hnb := Lib.hid hnb
          clear hnb
          cases nb with
          | true =>
            have hrc2 : (x.rc != 0) = false := by simpa using hone1 Hnb.out.symm
            have h52 : (u.kind == 5) = true := by simpa using h5
            obtain ⟨D', qs2, hq2, hp2⟩ := Hin.out wo Hpo.out
            have HU2 : Hid (U = (u, true, treeP fs ats d u.n x.sub (path ++ [u.n]))) := Lib.hid (by rw [HU.out]; exact leafP_in h5 (by unfold withinP; rw [if_pos Hnb.out.symm]))
            have Hfit : Hid (finePat x.sub = true) := Lib.hid (Hsubf.out Hnb.out.symm)
            have Hsubp : Hid (∀ w', Only (· = B) wo w' → Pat B D' 0 B w' (.slice xp x.sub.length xc) qs2) := Lib.hid (fun w' h => hp2.turn h)
            have Hsubm : Hid (qs2.map (·.1) = x.sub) := Lib.hid hq2
            clear hp2 hq2 hone1 hone2 hone3 h5
            obtain ⟨l0, l1, l2, l3, l4⟩ := leaf_cells Hbl.out.cells
            simp only [Nat.zero_add] at l1 l2 l3 l4
            have lfz := Hbl.out.free 3
            have hB6 := (Below.refl wo.heap.size w5).setCell (p := ⟨bl, 3, none⟩) hbl0 (.bool true)
            have HO6 := Lib.hid (HO5.out.then hB6)
            have Hb6 := Lib.hid (Hbl.out.set 3 (.bool true))
            have HBk6 := Lib.hid (HBk5.out.below hB6 (by omega))
            have hz6 : w5.heap.size ≤ (w5.setCell ⟨bl, 3, none⟩ (.bool true)).heap.size := by simp [World.setCell]
            clear hB6
            go_upto_region 15 with fail
            generalize w5.setCell ⟨bl, 3, none⟩ (.bool true) = w6 at *
            have Hx6 := Lib.hid (HO6.out.blk Hx3.out (by omega))
            have Hcs6 : Hid (CellsAt w6 bv (ov + k * 3) [.int .i64 u.kind, .int .i64 u.n, .string ⟨u.s.toArray⟩]) := Lib.hid (Hcs0.out.agree (lo := bv) (hi := bv + 1) (HO6.out.agree (by omega) (fun k e => .inl (by have : k = B := e; omega))) (Nat.le_refl _) (by omega))
            clear l0 l1 l2 l3 l4 lfz x8 x9 x10 kv0 kv1
            obtain ⟨x0, x1, x2, x3, x4, x5, x6, x7, x8, x9, x10⟩ := item_cells Hx6.out.cells
            simp only [Nat.zero_add] at x9 x10
            obtain ⟨kv0, kv1, kv2⟩ := value_cells Hcs6.out
            clear x0 x1 x2 x3 x4 x5 x6 x7 x8 kv2
            have HO8 := HO6
            have Hb8 := Hb6
            have HBk8 := HBk6
            have HPt := Lib.hid (Hsubp.out w6 HO6.out)
            have HSm := Hsubm
            have HSf := Hfit
            clear HO6 Hb6 HBk6
            generalize w6 = w8 at *
            go_upto_region 21 with fail
            have Hpa8 := Lib.hid (Hpa2.out.turn (HO.out.trans HO8.out))
            obtain ⟨l0, l1, l2, l3, l4⟩ := leaf_cells Hb8.out.cells
            simp only [Nat.zero_add] at l1 l2 l3 l4
            have hplen2 := HF.out.pth
            have hz8 := HO8.out.size
            obtain ⟨v10, w10, hr10, ho10, ha10⟩ := app_sl (lo := w8.heap.size) Try.underlying53 infoN rfl (fun _ => rfl) inE.one (Own.nil inE 2 1 w8.heap.size w8) Hpa8.out.sl (by rw [List.length_nil]; omega) (by decide) (Nat.le_refl _)
            rw [List.nil_append] at ho10
            have hB10 : Below w8.heap.size w8 w10 := ha10.below (Nat.le_refl _) (fun k e => by cases e)
            obtain ⟨v11, w11, hr11, ho11, ha11⟩ := app_one Try.underlying53 infoN rfl (fun _ => rfl) inE.one ho10 u.n (n := w10.heap.size) rfl (by omega) (by decide) hB10.size
            have hB11 : Below w8.heap.size w8 w11 := hB10.trans (ha11.below hB10.size (fun k hk => (Own.lt ho10 k hk).1))
            have hz11 := hB11.size
            have HO11 := Lib.hid (HO8.out.trans (Below.only hB11))
            have HP11 := Lib.hid (HP2.out.turn (HO.out.trans HO11.out) (HBk8.out.below hB11 HBk8.out.lt))
            have HPt11 := Lib.hid (HPt.out.turn (Below.only hB11))
            have HPa11 : Hid (Pth B w8.heap.size w11.heap.size w11 v11 (path ++ [u.n])) := Lib.hid ⟨Sl.ofOwn (fun _ => rfl) ho11, by omega, Nat.le_refl _⟩
            have Hb11 := Lib.hid (Hb8.out.below hB11 Hb8.out.lt)
            have hbl8 := Hb8.out.lt
            have HFit : Hid (Fit fs ats d (n1 + 1) (path ++ [u.n])) := Lib.hid ⟨HF.out.fsl, HF.out.atl, HF.out.names, HF.out.lns, by omega, by omega, by have := HF.out.d0; omega, by omega, by rw [List.length_append, List.length_singleton]; omega⟩
            simp only [inE] at hr11
            clear ho10 ha10 hB10 ho11 ha11 hB11 hplen2 l0 l1 l2 l4
            go_wp2_with (at_builtin; refine AtApp.of ?_)
            refine AtApp.go hr10 rfl rfl rfl rfl ?_
            go_wp2_with (at_builtin; refine AtApp.of ?_)
            refine AtApp.go hr11 rfl rfl rfl rfl ?_
            clear hr10 hr11 kv0 x10
            go_wp2_with fail
            refine hT B hA D' 0 B w8.heap.size w11.heap.size lv av fs ats (n1 + 1) u.n qs2 (path ++ [u.n]) _ _ w11 HP11.out HPt11.out HPa11.out HFit.out (by rw [HSm.out]; exact HSf.out) _ (fun w12 n2 ta tl tc hO12 hblk12 hout12 => ?_)
            have hz12 := hO12.size
            have Hb12 := Lib.hid (hO12.blk Hb11.out (by omega))
            obtain ⟨l0, l1, l2, l3', l4⟩ := leaf_cells Hb12.out.cells
            simp only [Nat.zero_add] at l4
            have lfz := Hb12.out.free 4
            have lfl := Hb12.out.lt
            have hB13 := (Below.refl wo.heap.size w12).setCell (p := ⟨bl, 4, none⟩) hbl0 (.slice ta tl tc)
            have HO13 := Lib.hid ((HO11.out.trans hO12).then hB13)
            have Hb13 := Lib.hid (Hb12.out.set 4 (.slice ta tl tc))
            have HBk13 := Lib.hid (hblk12.below hB13 (by omega))
            have hz13 : w12.heap.size ≤ (w12.setCell ⟨bl, 4, none⟩ (.slice ta tl tc)).heap.size := by simp [World.setCell]
            have Hag : Hid (Agree w11.heap.size w12.heap.size w12 (w12.setCell ⟨bl, 4, none⟩ (.slice ta tl tc))) := Lib.hid ((Only.setCell (A := (· = bl)) w12 (p := ⟨bl, 4, none⟩) rfl _).agree (Nat.le_refl _) (fun k e => .inl (by have : k = bl := e; omega)))
            rw [HSm.out] at hout12
            have Hout := Lib.hid hout12
            have ho1 := hout12.1
            have ho2 := hout12.2.1
            clear hB13 hO12 hblk12 hout12 l0 l1 l2 l3 l3' kv1
            go_upto_region 25 with fail
            generalize w12.setCell ⟨bl, 4, none⟩ (.slice ta tl tc) = w13 at *
            clear l4 lfz
            obtain ⟨l0, l1, l2, l3, l4⟩ := leaf_cells Hb13.out.cells
            simp only [Nat.zero_add] at l1 l2 l3 l4
            have Ho13 : Hid (OwnL (Tr d) w2.heap.size w13 (.slice p13 qs.length q13) qs) := Lib.hid (Own.turn Ho.out HO13.out hBz2)
            obtain ⟨tt, htt⟩ : ∃ tt, tt = treeP fs ats d u.n (x.sub) (path ++ [u.n]) := ⟨_, rfl⟩
            rw [← htt] at HU2 Hout
            clear htt
            obtain ⟨v14, w14, hr14, ho14, ha14⟩ := app_one Try.underlying60 infoL rfl LH.len LH.one Ho13.out ((u, true, tt), (⟨ta, tl, tc⟩ : HD)) (n := w13.heap.size) rfl (by have := Hqk.out; omega) (by decide) (by omega)
            have HO14 := Lib.hid ((HO.out.trans HO13.out).then (ha14.below (B := w2.heap.size) (by omega) (fun k hk => (Own.lt Ho13.out k hk).1)))
            have HB14 := Lib.hid (ha14.blk HBk13.out (fun e => by have := (Own.lt Ho13.out _ e).1; omega))
            have HK14 : Hid (TrIn d w11.heap.size w12.heap.size w12 (.slice ta tl tc) tt → KeptAt (LfF d) w2.heap.size w14 v14 (qs ++ [((u, true, tt), (⟨ta, tl, tc⟩ : HD))])) := Lib.hid (fun h => ((Hlf.out.turn (LfF.loc d) HO13.out hBz2).snoc (p := ((u, true, tt), (⟨ta, tl, tc⟩ : HD))) (a := w11.heap.size) (b := w12.heap.size) (by omega) hz13 ((TrIn.loc d).agree h Hag.out) (fun k hk => .inl (by have := (Own.lt Ho.out k hk).2; omega))).app (LfF.loc d) ha14)
            have HS := Lib.hid (leaves_step (q := ((u, true, tt), (⟨ta, tl, tc⟩ : HD))) (n2 := n2) Hstep.out Hn1e.out Hqs.out Hpk.out HU2.out.symm (fun h => by
              rw [HU2.out] at h ⊢
              obtain ⟨h1, h2⟩ := Hout.out.2.2.1 h
              exact ⟨h1, HK14.out h2⟩) (fun h => by
              rw [HU2.out] at h
              exact Hout.out.2.2.2 h))
            have Ho14 := Lib.hid ho14
            simp only [LH.enc] at hr14
            clear ho14 ha14
            go_wp2_with (at_builtin; refine AtApp.of ?_)
            refine AtApp.go hr14 rfl rfl rfl rfl ?_
            clear hr14 l0 l1 l2 l3 l4
            go_wp2_with fail
            go_roundw
            case rel => exact ⟨k + 1, n2, _, by omega, by go_num, HO14.out, HB14.out, Ho14.out, by have := Hqk.out; simp; omega, by omega, by omega, Lib.hid (by rw [← HP1'.out]; exact HS.out.1), Lib.hid (by rw [← HP1'.out]; exact HS.out.2)⟩
            case measure => simp [intOf]; omega
          | false =>
            have h52 : (u.kind == 5) = true := by simpa using h5
            by_cases hrc : x.rc = 0
            · have hrc2 : (x.rc != 0) = false := by simpa using hrc
              have HU2 : Hid (U = (u, false, Tr.none d)) := Lib.hid (by rw [HU.out]; exact leafP_plain (.inr (by unfold withinP; rw [if_neg (by rw [← Hnb.out]; decide), if_pos (.inl hrc)])))
              clear hrc hone1 hone2 hone3 h5
              obtain ⟨l0, l1, l2, l3, l4⟩ := leaf_cells Hbl.out.cells
              simp only [Nat.zero_add] at l1 l2 l3 l4
              go_upto_region 25 with fail
              have Ho5 : Hid (OwnL (Tr d) w2.heap.size w5 (.slice p13 qs.length q13) qs) := Lib.hid (Own.turn Ho.out HO5.out hBz2)
              obtain ⟨v6, w6, hr6, ho6, ha6⟩ := app_one Try.underlying60 infoL rfl LH.len LH.one Ho5.out ((u, false, Tr.none d), (⟨none, 0, 0⟩ : HD)) (n := w5.heap.size) rfl (by have := Hqk.out; omega) (by decide) (by omega)
              have HO6 := Lib.hid ((HO.out.trans HO5.out).then (ha6.below (B := w2.heap.size) (by omega) (fun k hk => (Own.lt Ho5.out k hk).1)))
              have HB6 := Lib.hid (ha6.blk HBk5.out (fun e => by have := (Own.lt Ho5.out _ e).1; omega))
              have HK6 := Lib.hid (((Hlf.out.turn (LfF.loc d) HO5.out hBz2).snoc (p := ((u, false, Tr.none d), (⟨none, 0, 0⟩ : HD))) (a := w5.heap.size) (b := w5.heap.size) (by omega) (Nat.le_refl _) (TrIn.none d _ _ _) (fun k hk => .inl (Own.lt Ho5.out k hk).2)).app (LfF.loc d) ha6)
              have hsz : Tr.size d (Tr.none d) = 0 := size_none d
              have HS := Lib.hid (leaves_step (q := ((u, false, Tr.none d), (⟨none, 0, 0⟩ : HD))) (n2 := n1 + 1) Hstep.out Hn1e.out Hqs.out Hpk.out HU2.out.symm (fun h => ⟨by rw [HU2.out]; show n1 + 1 = n1 + 1 + ((Tr.size d (Tr.none d) : Nat) : Int); omega, HK6.out⟩) (fun h => by rw [HU2.out] at h; have h : 10000 < n1 + 1 + ((Tr.size d (Tr.none d) : Nat) : Int) := h; omega))
              have Ho6 := Lib.hid ho6
              simp only [LH.enc] at hr6
              clear ho6 ha6 hsz
              go_wp2_with (at_builtin; refine AtApp.of ?_)
              refine AtApp.go hr6 rfl rfl rfl rfl ?_
              clear hr6 l0 l1 l2 l3 l4 kv0 kv1 x8 x9 x10
              go_wp2_with fail
              go_roundw
              case rel => exact ⟨k + 1, n1 + 1, _, by omega, by go_num, HO6.out, HB6.out, Ho6.out, by have := Hqk.out; simp; omega, by omega, by omega, Lib.hid (by rw [← HP1'.out]; exact HS.out.1), Lib.hid (by rw [← HP1'.out]; exact HS.out.2)⟩
              case measure => simp [intOf]; omega
            · have hrc2 : (x.rc != 0) = true := by simpa using hrc
              cases hpc : path.contains u.n with
              | true =>
                have HU2 : Hid (U = (u, false, Tr.none d)) := Lib.hid (by rw [HU.out]; exact leafP_plain (.inr (by unfold withinP; rw [if_neg (by rw [← Hnb.out]; decide), if_pos (.inr (by simpa using hpc))])))
                clear hrc hone1 hone2 hone3 h5
                have Hpa5 := Lib.hid (Hpa2.out.turn (HO.out.trans HO5.out))
                go_wp2_with fail
                refine has_any lo2 hi2 path u.n _ w5 Hpa5.out.sl _ ?_
                rw [hpc]
                clear hpc
                obtain ⟨l0, l1, l2, l3, l4⟩ := leaf_cells Hbl.out.cells
                simp only [Nat.zero_add] at l1 l2 l3 l4
                go_upto_region 25 with fail
                have Ho5 : Hid (OwnL (Tr d) w2.heap.size w5 (.slice p13 qs.length q13) qs) := Lib.hid (Own.turn Ho.out HO5.out hBz2)
                obtain ⟨v6, w6, hr6, ho6, ha6⟩ := app_one Try.underlying60 infoL rfl LH.len LH.one Ho5.out ((u, false, Tr.none d), (⟨none, 0, 0⟩ : HD)) (n := w5.heap.size) rfl (by have := Hqk.out; omega) (by decide) (by omega)
                have HO6 := Lib.hid ((HO.out.trans HO5.out).then (ha6.below (B := w2.heap.size) (by omega) (fun k hk => (Own.lt Ho5.out k hk).1)))
                have HB6 := Lib.hid (ha6.blk HBk5.out (fun e => by have := (Own.lt Ho5.out _ e).1; omega))
                have HK6 := Lib.hid (((Hlf.out.turn (LfF.loc d) HO5.out hBz2).snoc (p := ((u, false, Tr.none d), (⟨none, 0, 0⟩ : HD))) (a := w5.heap.size) (b := w5.heap.size) (by omega) (Nat.le_refl _) (TrIn.none d _ _ _) (fun k hk => .inl (Own.lt Ho5.out k hk).2)).app (LfF.loc d) ha6)
                have hsz : Tr.size d (Tr.none d) = 0 := size_none d
                have HS := Lib.hid (leaves_step (q := ((u, false, Tr.none d), (⟨none, 0, 0⟩ : HD))) (n2 := n1 + 1) Hstep.out Hn1e.out Hqs.out Hpk.out HU2.out.symm (fun h => ⟨by rw [HU2.out]; show n1 + 1 = n1 + 1 + ((Tr.size d (Tr.none d) : Nat) : Int); omega, HK6.out⟩) (fun h => by rw [HU2.out] at h; have h : 10000 < n1 + 1 + ((Tr.size d (Tr.none d) : Nat) : Int) := h; omega))
                have Ho6 := Lib.hid ho6
                simp only [LH.enc] at hr6
                clear ho6 ha6 hsz
                go_wp2_with (at_builtin; refine AtApp.of ?_)
                refine AtApp.go hr6 rfl rfl rfl rfl ?_
                clear hr6 l0 l1 l2 l3 l4 kv0 kv1 x8 x9 x10
                go_wp2_with fail
                go_roundw
                case rel => exact ⟨k + 1, n1 + 1, _, by omega, by go_num, HO6.out, HB6.out, Ho6.out, by have := Hqk.out; simp; omega, by omega, by omega, Lib.hid (by rw [← HP1'.out]; exact HS.out.1), Lib.hid (by rw [← HP1'.out]; exact HS.out.2)⟩
                case measure => simp [intOf]; omega
              | false =>
                have Hw0 : Hid (withinP x (ps.map (·.1)) u.n path = if x.rc < 0 then some (ps.map (·.1)) else some (lessP x (ps.map (·.1)))) := Lib.hid (by unfold withinP; rw [if_neg (by rw [← Hnb.out]; decide), if_neg (by intro h; rcases h with h | h; exact hrc h; have : path.contains u.n = true := (by simpa using h); rw [hpc] at this; cases this)])
                have Hpa5 := Lib.hid (Hpa2.out.turn (HO.out.trans HO5.out))
                go_wp2_with fail
                refine has_any lo2 hi2 path u.n _ w5 Hpa5.out.sl _ ?_
                rw [hpc]
                by_cases hneg : x.rc < 0
                · have hneg2 : ¬ (0 : Int) < x.rc := by omega
                  have HU2 : Hid (U = (u, true, treeP fs ats d u.n (ps.map (·.1)) (path ++ [u.n]))) := Lib.hid (by rw [HU.out]; exact leafP_in h5 (by rw [Hw0.out, if_pos hneg]))
                  clear hrc hone1 hone2 hone3 h5 hpc Hw0
                  obtain ⟨l0, l1, l2, l3, l4⟩ := leaf_cells Hbl.out.cells
                  simp only [Nat.zero_add] at l1 l2 l3 l4
                  have lfz := Hbl.out.free 3
                  have hB6 := (Below.refl wo.heap.size w5).setCell (p := ⟨bl, 3, none⟩) hbl0 (.bool true)
                  have HO6 := Lib.hid (HO5.out.then hB6)
                  have Hb6 := Lib.hid (Hbl.out.set 3 (.bool true))
                  have HBk6 := Lib.hid (HBk5.out.below hB6 (by omega))
                  have hz6 : w5.heap.size ≤ (w5.setCell ⟨bl, 3, none⟩ (.bool true)).heap.size := by simp [World.setCell]
                  clear hB6
                  go_upto_region 18 with fail
                  generalize w5.setCell ⟨bl, 3, none⟩ (.bool true) = w6 at *
                  have Hx6 := Lib.hid (HO6.out.blk Hx3.out (by omega))
                  have Hcs6 : Hid (CellsAt w6 bv (ov + k * 3) [.int .i64 u.kind, .int .i64 u.n, .string ⟨u.s.toArray⟩]) := Lib.hid (Hcs0.out.agree (lo := bv) (hi := bv + 1) (HO6.out.agree (by omega) (fun k e => .inl (by have : k = B := e; omega))) (Nat.le_refl _) (by omega))
                  clear l0 l1 l2 l3 l4 lfz x8 x9 x10 kv0 kv1
                  obtain ⟨x0, x1, x2, x3, x4, x5, x6, x7, x8, x9, x10⟩ := item_cells Hx6.out.cells
                  simp only [Nat.zero_add] at x9 x10
                  obtain ⟨kv0, kv1, kv2⟩ := value_cells Hcs6.out
                  clear x0 x1 x2 x3 x4 x5 x6 x7 x8 kv2
                  have Hi6 := Lib.hid (Hpo.out.turn HO6.out).sl
                  obtain ⟨v7, w7, hr7, ho7, ha7⟩ := app_sl (lo := w6.heap.size) Try.underlying24 infoI rfl IH.len IH.one (Own.nil IH.enc 66 11 w6.heap.size w6) Hi6.out (by rw [List.length_nil]; omega) (by decide) (Nat.le_refl _)
                  rw [List.nil_append] at ho7
                  have hB7 : Below w6.heap.size w6 w7 := ha7.below (Nat.le_refl _) (fun k e => by cases e)
                  have hz7 := hB7.size
                  go_wp2_with (at_builtin; refine AtApp.of ?_)
                  refine AtApp.go hr7 rfl rfl rfl rfl ?_
                  have HO7 := Lib.hid (HO6.out.trans (Below.only hB7))
                  have Hb7 := Lib.hid (Hb6.out.below hB7 Hb6.out.lt)
                  have HBk7 := Lib.hid (HBk6.out.below hB7 HBk6.out.lt)
                  have Hx7 := Lib.hid (Hx6.out.below hB7 Hx6.out.lt)
                  have Ho7 := Lib.hid ho7
                  clear hr7 ho7 ha7 hB7 x9 x10
                  obtain ⟨x0, x1, x2, x3, x4, x5, x6, x7, x8, x9, x10⟩ := item_cells Hx7.out.cells
                  simp only [Nat.zero_add] at x10
                  clear x0 x1 x2 x3 x4 x5 x6 x7 x8 x9
                  have HO8 := HO7
                  have Hb8 := Hb7
                  have HBk8 := HBk7
                  have HPt : Hid (Pat B D w6.heap.size w7.heap.size w7 v7 ps) := Lib.hid ⟨Sl.ofOwn IH.len Ho7.out, (Hpo.out.turn HO7.out).sub, .inr (by omega), Nat.le_refl _, (Hpo.out.turn HO7.out).leB, Hpo.out.all⟩
                  have HSm : Hid (ps.map (·.1) = ps.map (·.1)) := Lib.hid rfl
                  have HSf := Lib.hid (Hfine.out (by omega))
                  obtain ⟨p7, c7, rfl⟩ := Own.slice Ho7.out
                  clear HO7 Hb7 HBk7
                  generalize w7 = w8 at *
                  go_upto_region 21 with fail
                  have Hpa8 := Lib.hid (Hpa2.out.turn (HO.out.trans HO8.out))
                  obtain ⟨l0, l1, l2, l3, l4⟩ := leaf_cells Hb8.out.cells
                  simp only [Nat.zero_add] at l1 l2 l3 l4
                  have hplen2 := HF.out.pth
                  have hz8 := HO8.out.size
                  obtain ⟨v10, w10, hr10, ho10, ha10⟩ := app_sl (lo := w8.heap.size) Try.underlying53 infoN rfl (fun _ => rfl) inE.one (Own.nil inE 2 1 w8.heap.size w8) Hpa8.out.sl (by rw [List.length_nil]; omega) (by decide) (Nat.le_refl _)
                  rw [List.nil_append] at ho10
                  have hB10 : Below w8.heap.size w8 w10 := ha10.below (Nat.le_refl _) (fun k e => by cases e)
                  obtain ⟨v11, w11, hr11, ho11, ha11⟩ := app_one Try.underlying53 infoN rfl (fun _ => rfl) inE.one ho10 u.n (n := w10.heap.size) rfl (by omega) (by decide) hB10.size
                  have hB11 : Below w8.heap.size w8 w11 := hB10.trans (ha11.below hB10.size (fun k hk => (Own.lt ho10 k hk).1))
                  have hz11 := hB11.size
                  have HO11 := Lib.hid (HO8.out.trans (Below.only hB11))
                  have HP11 := Lib.hid (HP2.out.turn (HO.out.trans HO11.out) (HBk8.out.below hB11 HBk8.out.lt))
                  have HPt11 := Lib.hid (HPt.out.turn (Below.only hB11))
                  have HPa11 : Hid (Pth B w8.heap.size w11.heap.size w11 v11 (path ++ [u.n])) := Lib.hid ⟨Sl.ofOwn (fun _ => rfl) ho11, by omega, Nat.le_refl _⟩
                  have Hb11 := Lib.hid (Hb8.out.below hB11 Hb8.out.lt)
                  have hbl8 := Hb8.out.lt
                  have HFit : Hid (Fit fs ats d (n1 + 1) (path ++ [u.n])) := Lib.hid ⟨HF.out.fsl, HF.out.atl, HF.out.names, HF.out.lns, by omega, by omega, by have := HF.out.d0; omega, by omega, by rw [List.length_append, List.length_singleton]; omega⟩
                  simp only [inE] at hr11
                  clear ho10 ha10 hB10 ho11 ha11 hB11 hplen2 l0 l1 l2 l4
                  go_wp2_with (at_builtin; refine AtApp.of ?_)
                  refine AtApp.go hr10 rfl rfl rfl rfl ?_
                  go_wp2_with (at_builtin; refine AtApp.of ?_)
                  refine AtApp.go hr11 rfl rfl rfl rfl ?_
                  clear hr10 hr11 kv0 x10
                  go_wp2_with fail
                  refine hT B hA D w6.heap.size w8.heap.size w8.heap.size w11.heap.size lv av fs ats (n1 + 1) u.n ps (path ++ [u.n]) _ _ w11 HP11.out HPt11.out HPa11.out HFit.out HSf.out _ (fun w12 n2 ta tl tc hO12 hblk12 hout12 => ?_)
                  have hz12 := hO12.size
                  have Hb12 := Lib.hid (hO12.blk Hb11.out (by omega))
                  obtain ⟨l0, l1, l2, l3', l4⟩ := leaf_cells Hb12.out.cells
                  simp only [Nat.zero_add] at l4
                  have lfz := Hb12.out.free 4
                  have lfl := Hb12.out.lt
                  have hB13 := (Below.refl wo.heap.size w12).setCell (p := ⟨bl, 4, none⟩) hbl0 (.slice ta tl tc)
                  have HO13 := Lib.hid ((HO11.out.trans hO12).then hB13)
                  have Hb13 := Lib.hid (Hb12.out.set 4 (.slice ta tl tc))
                  have HBk13 := Lib.hid (hblk12.below hB13 (by omega))
                  have hz13 : w12.heap.size ≤ (w12.setCell ⟨bl, 4, none⟩ (.slice ta tl tc)).heap.size := by simp [World.setCell]
                  have Hag : Hid (Agree w11.heap.size w12.heap.size w12 (w12.setCell ⟨bl, 4, none⟩ (.slice ta tl tc))) := Lib.hid ((Only.setCell (A := (· = bl)) w12 (p := ⟨bl, 4, none⟩) rfl _).agree (Nat.le_refl _) (fun k e => .inl (by have : k = bl := e; omega)))
                  have Hout := Lib.hid hout12
                  have ho1 := hout12.1
                  have ho2 := hout12.2.1
                  clear hB13 hO12 hblk12 hout12 l0 l1 l2 l3 l3' kv1
                  go_upto_region 25 with fail
                  generalize w12.setCell ⟨bl, 4, none⟩ (.slice ta tl tc) = w13 at *
                  clear l4 lfz
                  obtain ⟨l0, l1, l2, l3, l4⟩ := leaf_cells Hb13.out.cells
                  simp only [Nat.zero_add] at l1 l2 l3 l4
                  have Ho13 : Hid (OwnL (Tr d) w2.heap.size w13 (.slice p13 qs.length q13) qs) := Lib.hid (Own.turn Ho.out HO13.out hBz2)
                  obtain ⟨tt, htt⟩ : ∃ tt, tt = treeP fs ats d u.n (ps.map (·.1)) (path ++ [u.n]) := ⟨_, rfl⟩
                  rw [← htt] at HU2 Hout
                  clear htt
                  obtain ⟨v14, w14, hr14, ho14, ha14⟩ := app_one Try.underlying60 infoL rfl LH.len LH.one Ho13.out ((u, true, tt), (⟨ta, tl, tc⟩ : HD)) (n := w13.heap.size) rfl (by have := Hqk.out; omega) (by decide) (by omega)
                  have HO14 := Lib.hid ((HO.out.trans HO13.out).then (ha14.below (B := w2.heap.size) (by omega) (fun k hk => (Own.lt Ho13.out k hk).1)))
                  have HB14 := Lib.hid (ha14.blk HBk13.out (fun e => by have := (Own.lt Ho13.out _ e).1; omega))
                  have HK14 : Hid (TrIn d w11.heap.size w12.heap.size w12 (.slice ta tl tc) tt → KeptAt (LfF d) w2.heap.size w14 v14 (qs ++ [((u, true, tt), (⟨ta, tl, tc⟩ : HD))])) := Lib.hid (fun h => ((Hlf.out.turn (LfF.loc d) HO13.out hBz2).snoc (p := ((u, true, tt), (⟨ta, tl, tc⟩ : HD))) (a := w11.heap.size) (b := w12.heap.size) (by omega) hz13 ((TrIn.loc d).agree h Hag.out) (fun k hk => .inl (by have := (Own.lt Ho.out k hk).2; omega))).app (LfF.loc d) ha14)
                  have HS := Lib.hid (leaves_step (q := ((u, true, tt), (⟨ta, tl, tc⟩ : HD))) (n2 := n2) Hstep.out Hn1e.out Hqs.out Hpk.out HU2.out.symm (fun h => by
                    rw [HU2.out] at h ⊢
                    obtain ⟨h1, h2⟩ := Hout.out.2.2.1 h
                    exact ⟨h1, HK14.out h2⟩) (fun h => by
                    rw [HU2.out] at h
                    exact Hout.out.2.2.2 h))
                  have Ho14 := Lib.hid ho14
                  simp only [LH.enc] at hr14
                  clear ho14 ha14
                  go_wp2_with (at_builtin; refine AtApp.of ?_)
                  refine AtApp.go hr14 rfl rfl rfl rfl ?_
                  clear hr14 l0 l1 l2 l3 l4
                  go_wp2_with fail
                  go_roundw
                  case rel => exact ⟨k + 1, n2, _, by omega, by go_num, HO14.out, HB14.out, Ho14.out, by have := Hqk.out; simp; omega, by omega, by omega, Lib.hid (by rw [← HP1'.out]; exact HS.out.1), Lib.hid (by rw [← HP1'.out]; exact HS.out.2)⟩
                  case measure => simp [intOf]; omega
                · have hpos : (0 : Int) < x.rc := by omega
                  have HU2 : Hid (U = (u, true, treeP fs ats d u.n (lessP x (ps.map (·.1))) (path ++ [u.n]))) := Lib.hid (by rw [HU.out]; exact leafP_in h5 (by rw [Hw0.out, if_neg hneg]))
                  have Hlff := Lib.hid (Hlessf.out hpos)
                  clear hrc hone1 h5 hpc Hw0 hneg
                  obtain ⟨l0, l1, l2, l3, l4⟩ := leaf_cells Hbl.out.cells
                  simp only [Nat.zero_add] at l1 l2 l3 l4
                  have lfz := Hbl.out.free 3
                  have hB6 := (Below.refl wo.heap.size w5).setCell (p := ⟨bl, 3, none⟩) hbl0 (.bool true)
                  have HO6 := Lib.hid (HO5.out.then hB6)
                  have Hb6 := Lib.hid (Hbl.out.set 3 (.bool true))
                  have HBk6 := Lib.hid (HBk5.out.below hB6 (by omega))
                  have hz6 : w5.heap.size ≤ (w5.setCell ⟨bl, 3, none⟩ (.bool true)).heap.size := by simp [World.setCell]
                  clear hB6
                  go_upto_region 18 with fail
                  generalize w5.setCell ⟨bl, 3, none⟩ (.bool true) = w6 at *
                  have Hx6 := Lib.hid (HO6.out.blk Hx3.out (by omega))
                  have Hcs6 : Hid (CellsAt w6 bv (ov + k * 3) [.int .i64 u.kind, .int .i64 u.n, .string ⟨u.s.toArray⟩]) := Lib.hid (Hcs0.out.agree (lo := bv) (hi := bv + 1) (HO6.out.agree (by omega) (fun k e => .inl (by have : k = B := e; omega))) (Nat.le_refl _) (by omega))
                  clear l0 l1 l2 l3 l4 lfz x8 x9 x10 kv0 kv1
                  obtain ⟨x0, x1, x2, x3, x4, x5, x6, x7, x8, x9, x10⟩ := item_cells Hx6.out.cells
                  simp only [Nat.zero_add] at x9 x10
                  obtain ⟨kv0, kv1, kv2⟩ := value_cells Hcs6.out
                  clear x0 x1 x2 x3 x4 x5 x6 x7 x8 kv2
                  have Hi6 := Lib.hid (Hpo.out.turn HO6.out).sl
                  obtain ⟨v7, w7, hr7, ho7, ha7⟩ := app_sl (lo := w6.heap.size) Try.underlying24 infoI rfl IH.len IH.one (Own.nil IH.enc 66 11 w6.heap.size w6) Hi6.out (by rw [List.length_nil]; omega) (by decide) (Nat.le_refl _)
                  rw [List.nil_append] at ho7
                  have hB7 : Below w6.heap.size w6 w7 := ha7.below (Nat.le_refl _) (fun k e => by cases e)
                  have hz7 := hB7.size
                  go_wp2_with (at_builtin; refine AtApp.of ?_)
                  refine AtApp.go hr7 rfl rfl rfl rfl ?_
                  have HO7 := Lib.hid (HO6.out.trans (Below.only hB7))
                  have Hb7 := Lib.hid (Hb6.out.below hB7 Hb6.out.lt)
                  have HBk7 := Lib.hid (HBk6.out.below hB7 HBk6.out.lt)
                  have Hx7 := Lib.hid (Hx6.out.below hB7 Hx6.out.lt)
                  have Ho7 := Lib.hid ho7
                  clear hr7 ho7 ha7 hB7 x9 x10
                  obtain ⟨x0, x1, x2, x3, x4, x5, x6, x7, x8, x9, x10⟩ := item_cells Hx7.out.cells
                  simp only [Nat.zero_add] at x10
                  clear x0 x1 x2 x3 x4 x5 x6 x7 x8 x9
                  have hpne : ps ≠ [] := List.ne_nil_of_length_pos (by omega)
                  obtain ⟨g, c7, rfl, hg1, hg2, hg3, hg4, hg5, hg6⟩ := Own.form Ho7.out hpne
                  have Hs7 := Lib.hid ((Sl.ofOwn IH.len Ho7.out).form)
                  obtain ⟨ao7, cap7, e7, -, -, -, hc7⟩ := Hs7.out
                  injection e7 with e71 e72 e73
                  subst e71 e73
                  obtain ⟨b7, off7, e74, -, -, hcc7⟩ := hc7 j hj
                  obtain ⟨cs7, -, hcs7, e75⟩ := hcc7 j hj
                  injection e74 with e74
                  injection e74 with e74 e76
                  subst e74 e76
                  have e77 : cs7 = IH.enc ps[j] := e75
                  rw [e77, Hy.out] at hcs7
                  clear hcc7 hc7 e75 e77 e72 Hs7
                  obtain ⟨y0, y1, y2, y3, y4, y5, y6, y7, y8, y9, y10⟩ := item_cells (show CellsAt w7 g (0 + j * 11) [.bool x.wild, .string ⟨x.attr.toArray⟩, .bool x.back, .int .i64 x.limit, .bool x.has, .int .i64 x.dflt.kind, .int .i64 x.dflt.n, .string ⟨x.dflt.s.toArray⟩, .bool x.nested, .slice xp x.sub.length xc, .int .i64 x.rc] from hcs7)
                  simp only [Nat.zero_add] at y10
                  have yfz := hg6 (j * 11 + 10)
                  have hw63 : IntKind.i64.wrap (x.rc - 1) = x.rc - 1 := wrapIn (by omega) (by omega)
                  have ho8 := Own.setPart (o := 10) (u := .int .i64 (x.rc - 1)) IH.len Ho7.out hj (by decide) ({ x with rc := x.rc - 1 }, xp, xc) (by rw [Hy.out]; rfl)
                  have hB8 := (Below.refl w6.heap.size w7).setCell (p := ⟨g, j * 11 + 10, none⟩) hg1 (.int .i64 (x.rc - 1))
                  have hz78 : w7.heap.size ≤ (w7.setCell ⟨g, j * 11 + 10, none⟩ (.int .i64 (x.rc - 1))).heap.size := by simp [World.setCell]
                  clear y0 y1 y2 y3 y4 y5 y6 y7 y8 y9 hcs7 hg3 hg4 hg5 hg6
                  go_upto_region 21 with fail
                  generalize w7.setCell ⟨g, j * 11 + 10, none⟩ (.int .i64 (x.rc - 1)) = w8 at *
                  have HO8 := Lib.hid (HO7.out.then (hB8.mono (show wo.heap.size ≤ w6.heap.size by omega)))
                  have Hb8 := Lib.hid (Hb7.out.below (B := w6.heap.size) hB8 Hb6.out.lt)
                  have HBk8 := Lib.hid (HBk7.out.below hB8 HBk6.out.lt)
                  have HPt : Hid (Pat B D w6.heap.size w8.heap.size w8 (.slice (some ⟨g, 0, none⟩) ps.length c7) (ps.set j ({ x with rc := x.rc - 1 }, xp, xc))) := Lib.hid ⟨by have := Sl.ofOwn IH.len ho8; exact this, fun p hp => by
                      have hP := Hpo.out.turn HO8.out
                      rcases List.mem_or_eq_of_mem_set hp with hp | rfl
                      · exact hP.sub p hp
                      · have h2 := hP.sub _ (List.getElem_mem hj)
                        rw [Hy.out] at h2
                        exact itE_rc h2, .inr (by omega), Nat.le_refl _, (Hpo.out.turn HO8.out).leB, by rw [← Hless.out (by omega), allL_same (lessP_sub _ _)]; exact Hpo.out.all⟩
                  have HSm : Hid ((ps.set j ({ x with rc := x.rc - 1 }, xp, xc)).map (·.1) = lessP x (ps.map (·.1))) := Lib.hid (Hless.out (by omega)).symm
                  have HSf := Hlff
                  clear HO7 Hb7 HBk7 ho8 hB8 y10 yfz
                  have Hpa8 := Lib.hid (Hpa2.out.turn (HO.out.trans HO8.out))
                  obtain ⟨l0, l1, l2, l3, l4⟩ := leaf_cells Hb8.out.cells
                  simp only [Nat.zero_add] at l1 l2 l3 l4
                  have hplen2 := HF.out.pth
                  have hz8 := HO8.out.size
                  obtain ⟨v10, w10, hr10, ho10, ha10⟩ := app_sl (lo := w8.heap.size) Try.underlying53 infoN rfl (fun _ => rfl) inE.one (Own.nil inE 2 1 w8.heap.size w8) Hpa8.out.sl (by rw [List.length_nil]; omega) (by decide) (Nat.le_refl _)
                  rw [List.nil_append] at ho10
                  have hB10 : Below w8.heap.size w8 w10 := ha10.below (Nat.le_refl _) (fun k e => by cases e)
                  obtain ⟨v11, w11, hr11, ho11, ha11⟩ := app_one Try.underlying53 infoN rfl (fun _ => rfl) inE.one ho10 u.n (n := w10.heap.size) rfl (by omega) (by decide) hB10.size
                  have hB11 : Below w8.heap.size w8 w11 := hB10.trans (ha11.below hB10.size (fun k hk => (Own.lt ho10 k hk).1))
                  have hz11 := hB11.size
                  have HO11 := Lib.hid (HO8.out.trans (Below.only hB11))
                  have HP11 := Lib.hid (HP2.out.turn (HO.out.trans HO11.out) (HBk8.out.below hB11 HBk8.out.lt))
                  have HPt11 := Lib.hid (HPt.out.turn (Below.only hB11))
                  have HPa11 : Hid (Pth B w8.heap.size w11.heap.size w11 v11 (path ++ [u.n])) := Lib.hid ⟨Sl.ofOwn (fun _ => rfl) ho11, by omega, Nat.le_refl _⟩
                  have Hb11 := Lib.hid (Hb8.out.below hB11 Hb8.out.lt)
                  have hbl8 := Hb8.out.lt
                  have HFit : Hid (Fit fs ats d (n1 + 1) (path ++ [u.n])) := Lib.hid ⟨HF.out.fsl, HF.out.atl, HF.out.names, HF.out.lns, by omega, by omega, by have := HF.out.d0; omega, by omega, by rw [List.length_append, List.length_singleton]; omega⟩
                  simp only [inE] at hr11
                  clear ho10 ha10 hB10 ho11 ha11 hB11 hplen2 l0 l1 l2 l4
                  go_wp2_with (at_builtin; refine AtApp.of ?_)
                  refine AtApp.go hr10 rfl rfl rfl rfl ?_
                  go_wp2_with (at_builtin; refine AtApp.of ?_)
                  refine AtApp.go hr11 rfl rfl rfl rfl ?_
                  clear hr10 hr11 kv0 x10
                  go_wp2_with fail
                  refine hT B hA D w6.heap.size w8.heap.size w8.heap.size w11.heap.size lv av fs ats (n1 + 1) u.n (ps.set j ({ x with rc := x.rc - 1 }, xp, xc)) (path ++ [u.n]) _ _ w11 HP11.out HPt11.out HPa11.out HFit.out (by rw [HSm.out]; exact HSf.out) _ (fun w12 n2 ta tl tc hO12 hblk12 hout12 => ?_)
                  have hz12 := hO12.size
                  have Hb12 := Lib.hid (hO12.blk Hb11.out (by omega))
                  obtain ⟨l0, l1, l2, l3', l4⟩ := leaf_cells Hb12.out.cells
                  simp only [Nat.zero_add] at l4
                  have lfz := Hb12.out.free 4
                  have lfl := Hb12.out.lt
                  have hB13 := (Below.refl wo.heap.size w12).setCell (p := ⟨bl, 4, none⟩) hbl0 (.slice ta tl tc)
                  have HO13 := Lib.hid ((HO11.out.trans hO12).then hB13)
                  have Hb13 := Lib.hid (Hb12.out.set 4 (.slice ta tl tc))
                  have HBk13 := Lib.hid (hblk12.below hB13 (by omega))
                  have hz13 : w12.heap.size ≤ (w12.setCell ⟨bl, 4, none⟩ (.slice ta tl tc)).heap.size := by simp [World.setCell]
                  have Hag : Hid (Agree w11.heap.size w12.heap.size w12 (w12.setCell ⟨bl, 4, none⟩ (.slice ta tl tc))) := Lib.hid ((Only.setCell (A := (· = bl)) w12 (p := ⟨bl, 4, none⟩) rfl _).agree (Nat.le_refl _) (fun k e => .inl (by have : k = bl := e; omega)))
                  rw [HSm.out] at hout12
                  have Hout := Lib.hid hout12
                  have ho1 := hout12.1
                  have ho2 := hout12.2.1
                  clear hB13 hO12 hblk12 hout12 l0 l1 l2 l3 l3' kv1
                  go_upto_region 25 with fail
                  generalize w12.setCell ⟨bl, 4, none⟩ (.slice ta tl tc) = w13 at *
                  clear l4 lfz
                  obtain ⟨l0, l1, l2, l3, l4⟩ := leaf_cells Hb13.out.cells
                  simp only [Nat.zero_add] at l1 l2 l3 l4
                  have Ho13 : Hid (OwnL (Tr d) w2.heap.size w13 (.slice p13 qs.length q13) qs) := Lib.hid (Own.turn Ho.out HO13.out hBz2)
                  obtain ⟨tt, htt⟩ : ∃ tt, tt = treeP fs ats d u.n (lessP x (ps.map (·.1))) (path ++ [u.n]) := ⟨_, rfl⟩
                  rw [← htt] at HU2 Hout
                  clear htt
                  obtain ⟨v14, w14, hr14, ho14, ha14⟩ := app_one Try.underlying60 infoL rfl LH.len LH.one Ho13.out ((u, true, tt), (⟨ta, tl, tc⟩ : HD)) (n := w13.heap.size) rfl (by have := Hqk.out; omega) (by decide) (by omega)
                  have HO14 := Lib.hid ((HO.out.trans HO13.out).then (ha14.below (B := w2.heap.size) (by omega) (fun k hk => (Own.lt Ho13.out k hk).1)))
                  have HB14 := Lib.hid (ha14.blk HBk13.out (fun e => by have := (Own.lt Ho13.out _ e).1; omega))
                  have HK14 : Hid (TrIn d w11.heap.size w12.heap.size w12 (.slice ta tl tc) tt → KeptAt (LfF d) w2.heap.size w14 v14 (qs ++ [((u, true, tt), (⟨ta, tl, tc⟩ : HD))])) := Lib.hid (fun h => ((Hlf.out.turn (LfF.loc d) HO13.out hBz2).snoc (p := ((u, true, tt), (⟨ta, tl, tc⟩ : HD))) (a := w11.heap.size) (b := w12.heap.size) (by omega) hz13 ((TrIn.loc d).agree h Hag.out) (fun k hk => .inl (by have := (Own.lt Ho.out k hk).2; omega))).app (LfF.loc d) ha14)
                  have HS := Lib.hid (leaves_step (q := ((u, true, tt), (⟨ta, tl, tc⟩ : HD))) (n2 := n2) Hstep.out Hn1e.out Hqs.out Hpk.out HU2.out.symm (fun h => by
                    rw [HU2.out] at h ⊢
                    obtain ⟨h1, h2⟩ := Hout.out.2.2.1 h
                    exact ⟨h1, HK14.out h2⟩) (fun h => by
                    rw [HU2.out] at h
                    exact Hout.out.2.2.2 h))
                  have Ho14 := Lib.hid ho14
                  simp only [LH.enc] at hr14
                  clear ho14 ha14
                  go_wp2_with (at_builtin; refine AtApp.of ?_)
                  refine AtApp.go hr14 rfl rfl rfl rfl ?_
                  clear hr14 l0 l1 l2 l3 l4
                  go_wp2_with fail
                  go_roundw
                  case rel => exact ⟨k + 1, n2, _, by omega, by go_num, HO14.out, HB14.out, Ho14.out, by have := Hqk.out; simp; omega, by omega, by omega, Lib.hid (by rw [← HP1'.out]; exact HS.out.1), Lib.hid (by rw [← HP1'.out]; exact HS.out.2)⟩
                  case measure => simp [intOf]; omega
        · have h52 : (u.kind == 5) = false := by simpa using h5
          have HU2 : Hid (U = (u, false, Tr.none d)) := Lib.hid (by rw [HU.out]; exact leafP_plain (.inl h5))
          clear h5
          obtain ⟨l0, l1, l2, l3, l4⟩ := leaf_cells Hbl.out.cells
          simp only [Nat.zero_add] at l1 l2 l3 l4
          go_upto_region 25 with fail
          have Ho5 : Hid (OwnL (Tr d) w2.heap.size w5 (.slice p13 qs.length q13) qs) := Lib.hid (Own.turn Ho.out HO5.out hBz2)
          obtain ⟨v6, w6, hr6, ho6, ha6⟩ := app_one Try.underlying60 infoL rfl LH.len LH.one Ho5.out ((u, false, Tr.none d), (⟨none, 0, 0⟩ : HD)) (n := w5.heap.size) rfl (by have := Hqk.out; omega) (by decide) (by omega)
          have HO6 := Lib.hid ((HO.out.trans HO5.out).then (ha6.below (B := w2.heap.size) (by omega) (fun k hk => (Own.lt Ho5.out k hk).1)))
          have HB6 := Lib.hid (ha6.blk HBk5.out (fun e => by have := (Own.lt Ho5.out _ e).1; omega))
          have HK6 := Lib.hid (((Hlf.out.turn (LfF.loc d) HO5.out hBz2).snoc (p := ((u, false, Tr.none d), (⟨none, 0, 0⟩ : HD))) (a := w5.heap.size) (b := w5.heap.size) (by omega) (Nat.le_refl _) (TrIn.none d _ _ _) (fun k hk => .inl (Own.lt Ho5.out k hk).2)).app (LfF.loc d) ha6)
          have hsz : Tr.size d (Tr.none d) = 0 := size_none d
          have HS := Lib.hid (leaves_step (q := ((u, false, Tr.none d), (⟨none, 0, 0⟩ : HD))) (n2 := n1 + 1) Hstep.out Hn1e.out Hqs.out Hpk.out HU2.out.symm (fun h => ⟨by rw [HU2.out]; show n1 + 1 = n1 + 1 + ((Tr.size d (Tr.none d) : Nat) : Int); omega, HK6.out⟩) (fun h => by rw [HU2.out] at h; have h : 10000 < n1 + 1 + ((Tr.size d (Tr.none d) : Nat) : Int) := h; omega))
          have Ho6 := Lib.hid ho6
          simp only [LH.enc] at hr6
          clear ho6 ha6 hsz
          go_wp2_with (at_builtin; refine AtApp.of ?_)
          refine AtApp.go hr6 rfl rfl rfl rfl ?_
          clear hr6 l0 l1 l2 l3 l4 kv0 kv1 x8 x9 x10
          go_wp2_with fail
          go_roundw
          case rel => exact ⟨k + 1, n1 + 1, _, by omega, by go_num, HO6.out, HB6.out, Ho6.out, by have := Hqk.out; simp; omega, by omega, by omega, Lib.hid (by rw [← HP1'.out]; exact HS.out.1), Lib.hid (by rw [← HP1'.out]; exact HS.out.2)⟩
          case measure => simp [intOf]; omega
    · have hke : k = nv := by omega
      have llt : ¬ ((nv : Nat) : Int) < (nv : Int) := by omega
      subst hke
      obtain ⟨x0, x1, x2, x3, x4, x5, x6, x7, x8, x9, x10⟩ := item_cells Hx3.out.cells
      simp only [Nat.zero_add] at x4 x5 x6 x7
      have HtA : Hid (pl.take k = pl) := Lib.hid (List.take_of_length_le (by have := Hpll.out; have := Hnv.out; omega))
      rw [HtA.out] at Hg Hb
      clear hk hlt x0 x1 x2 x3 x8 x9 x10
      by_cases h0 : k = 0
      · have hq0 : ((k : Int) == 0) = true := by rw [h0]; rfl
        have hvn : vs = [] := List.eq_nil_of_length_eq_zero (by have := Hnv.out; omega)
        have hpn : pl = [] := List.eq_nil_of_length_eq_zero (by have := Hpll.out; rw [hvn] at this; exact this)
        have hqn : qs = [] := List.eq_nil_of_length_eq_zero (by have := Hqk.out; omega)
        have hg2 := Hg.out (by rw [hpn]; show n + ((0 : Nat) : Int) ≤ 10000; omega)
        have Hn1e : Hid (n1 = n) := Lib.hid (by have := hg2.1; rw [hpn] at this; have e : n1 = n + ((0 : Nat) : Int) := this; omega)
        have HLv : Hid (leavesP fs ats d (treeP fs ats d) e x (ps.map (·.1)) path = if x.has then [(x.dflt, false, Tr.none d)] else []) := Lib.hid (by
          unfold leavesP
          rw [← Hvs.out, if_pos hvn])
        have Hqn := Lib.hid hqn
        clear h0 hvn hpn hqn hg2 Hg Hb
        obtain ⟨hb, hhb⟩ : ∃ hb, hb = x.has := ⟨_, rfl⟩
        rw [← hhb] at x4 HLv
        clear hhb
        cases hb with
        | true =>
          have hw63 : IntKind.i64.wrap (n1 + 1) = n1 + 1 := wrapIn (by omega) (by omega)
          have hBk := Lib.hid (Hblk.out.set 2 (.int .i64 (n1 + 1)))
          have HO4 := Lib.hid (onlySet wo B 2 (.int .i64 (n1 + 1)))
          go_upto_region 28 with fail
          generalize wo.setCell ⟨B, 2, none⟩ (.int .i64 (n1 + 1)) = w4 at *
          have Hx4 := Lib.hid (HO4.out.blk Hx3.out (by omega))
          clear x4 x5 x6 x7 y2 yl yf
          obtain ⟨x0, x1, x2, x3, x4, x5, x6, x7, x8, x9, x10⟩ := item_cells Hx4.out.cells
          simp only [Nat.zero_add] at x5 x6 x7
          have Ho4 : Hid (OwnL (Tr d) w2.heap.size w4 (.slice p13 qs.length q13) qs) := Lib.hid (Own.turn Ho.out HO4.out hBz2)
          have hz4 := HO4.out.size
          obtain ⟨v6, w6, hr6, ho6, ha6⟩ := app_one Try.underlying60 infoL rfl LH.len LH.one Ho4.out ((x.dflt, false, Tr.none d), (⟨none, 0, 0⟩ : HD)) (n := w4.heap.size) rfl (by rw [Hqn.out, List.length_nil]; decide) (by decide) (by omega)
          have hB6 := Lib.hid (ha6.below (B := w2.heap.size) (by omega) (fun k hk => (Own.lt Ho4.out k hk).1))
          have HO6 := Lib.hid (((HO2.out.trans (HO.out.trans HO4.out)).then (hB6.out.mono HO2.out.size)))
          have HB6 := Lib.hid (ha6.blk hBk.out (fun e => by have := (Own.lt Ho4.out _ e).1; omega))
          obtain ⟨p6, c6, rfl⟩ := Own.slice ho6
          have hs6 := OwnL.sl ho6
          have hK6 : KeptAt (LfF d) w2.heap.size w6 (.slice p6 (qs ++ [((x.dflt, false, Tr.none d), (⟨none, 0, 0⟩ : HD))]).length c6) [((x.dflt, false, Tr.none d), (⟨none, 0, 0⟩ : HD))] := ((KeptAt.nil (F := LfF d) (v := .slice p13 qs.length q13)).snoc (p := ((x.dflt, false, Tr.none d), (⟨none, 0, 0⟩ : HD))) (a := w4.heap.size) (b := w4.heap.size) (by omega) (Nat.le_refl _) (TrIn.none d _ _ _) (fun k hk => .inl (Own.lt Ho4.out k hk).2)).app (LfF.loc d) ha6
          have hln : (qs ++ [((x.dflt, false, Tr.none d), (⟨none, 0, 0⟩ : HD))]).length = qs.length + 1 := by simp
          rw [hln] at hs6 hK6 hr6
          have hz6 := hB6.out.size
          have hsz : lfsSize (Tr.size d) [((x.dflt, false, Tr.none d) : Lf (Tr d))] = 1 := by simp [lfsSize, size_none]
          have hfin : LOut d w.heap.size w6 n (n1 + 1) (.slice p6 (qs.length + 1) c6) [(x.dflt, false, Tr.none d)] := by
            have e1 := Hn1e.out
            unfold LOut
            rw [hsz]
            refine ⟨by omega, by omega, fun _ => ⟨by omega, ?_⟩, fun h => by omega⟩
            rw [Hqn.out] at hs6 hK6 ⊢
            exact Sl.mono (LfsOk.sl (fun p hp => hK6.all (LfF.loc d) p hp) hs6) (lfE_loc (TrIn.loc d)) (by omega) (Nat.le_refl _)
          have Hr := Lib.hid (HR.out w6 (n1 + 1) p6 (qs.length + 1) c6 HO6.out HB6.out (by rw [HLv.out, if_pos rfl]; exact hfin))
          simp only [LH.enc] at hr6
          clear ho6 ha6 hs6 hK6 hsz hfin hln
          go_wp2_with (at_builtin; refine AtApp.of ?_)
          refine AtApp.go hr6 rfl rfl rfl rfl ?_
          clear hr6 x0 x1 x2 x3 x4 x5 x6 x7 x8 x9 x10
          go_wp2_with fail
          first | exact Hr.out | exact fin Hr.out rfl
        | false =>
          have Hr := Lib.hid (HR.out wo n1 p13 qs.length q13 (HO2.out.trans HO.out) Hblk.out (by
            have e1 := Hn1e.out
            rw [HLv.out, if_neg (by decide)]
            refine ⟨by omega, by omega, fun _ => ⟨by simp [lfsSize]; omega, ?_⟩, fun h => by simp [lfsSize] at h; omega⟩
            have hs := OwnL.sl Ho.out
            rw [Hqn.out] at hs ⊢
            exact Sl.mono (LfsOk.sl (ps := []) (fun p hp => absurd hp List.not_mem_nil) hs) (lfE_loc (TrIn.loc d)) (by omega) (Nat.le_refl _)))
          go_wp2_with fail
          first | exact Hr.out | exact fin Hr.out rfl
      · have hq0 : ((k : Int) == 0) = false := by simpa using h0
        have HLv : Hid (leavesP fs ats d (treeP fs ats d) e x (ps.map (·.1)) path = pl) := Lib.hid (by
          unfold leavesP
          rw [← Hvs.out, if_neg (by intro h; have := Hnv.out; rw [h] at this; simp at this; omega), Hpl.out])
        have Hr := Lib.hid (HR.out wo n1 p13 qs.length q13 (HO2.out.trans HO.out) Hblk.out (by
          rw [HLv.out]
          refine ⟨hnn, by omega, fun h => ?_, Hb.out⟩
          obtain ⟨g1, g2, g3⟩ := Hg.out h
          refine ⟨g1, ?_⟩
          rw [← g2]
          have := Sl.mono (LfsOk.sl (fun p hp => g3.all (LfF.loc d) p hp) (OwnL.sl Ho.out)) (lfE_loc (TrIn.loc d)) (show w.heap.size ≤ w2.heap.size by omega) (Nat.le_refl _)
          exact this))
        clear x4 x5 x6 x7
        go_wp2_with fail
        first | exact Hr.out | exact fin Hr.out rfl
end Go.Proofs.Yticbhfmpnmolcaa
end

/- The document's tree. (Printed by puln.py.) -/
section
set_option linter.unusedVariables false
set_option linter.unusedSimpArgs false
namespace Go.Proofs.Yticbhfmpnmolcaa
open Go.RowKit
set_option linter.unusedVariables false
set_option linter.unusedSimpArgs false
/-- The items of a list with what a wild one stands for, whether there are facts or not. -/
def itemsR (ats : List Attr) (p : List It) : List It := p.filter (fun i => !i.wild) ++ if p.any It.wild then (ats.filter fun a => !namedP p a.name).map ofAttr else []
theorem id_of {ats : List Attr} (hn : ats.Pairwise fun a b => a.name ≠ b.name) {a : Attr} (ha : a ∈ ats) : idOf ats a.name = a.id := by
  obtain ⟨j, hj, rfl⟩ := List.getElem_of_mem ha
  unfold idOf
  cases hf : ats.findIdx? (byName ats[j].name) with
  | none =>
    rw [List.findIdx?_eq_none_iff] at hf
    have := hf _ (List.getElem_mem hj)
    simp [byName] at this
  | some i =>
    obtain ⟨hi, h1, -⟩ := List.findIdx?_eq_some_iff_getElem.1 hf
    have h2 : ats[i].name = ats[j].name := by simpa [byName] using h1
    have e : i = j := by
      rcases Nat.lt_trichotomy i j with h | h | h
      · exact absurd h2 (List.pairwise_iff_getElem.1 hn i j hi hj h)
      · exact h
      · exact absurd h2.symm (List.pairwise_iff_getElem.1 hn j i hj hi h)
    subst e
    simp only [findA]
    rw [List.getD_eq_getElem?_getD, List.getElem?_eq_getElem hi]
    rfl
theorem leaves_none {fs : List Ft} {ats : List Attr} {d : Nat} {T : Int → List It → List Int → Tr d} {e : Int} {a : Attr} {p : List It} {path : List Int} (hid : idOf ats a.name = a.id) (h : (fs.any fun f => f.e == e && f.a == a.id) = false) : leavesP fs ats d T e (ofAttr a) p path = [] := by
  have hv : valuesP fs ats e (ofAttr a) = [] := by
    unfold valuesP
    rw [List.filterMap_eq_nil_iff]
    intro f hf
    have h2 := List.any_eq_false.1 h f hf
    simp only [ofAttr, hid]
    unfold valueP
    split
    · rfl
    · rename_i h3
      rw [if_pos rfl]
      split
      · rename_i h4
        exfalso
        apply h2
        simp only [Classical.not_not] at h3
        simp [h3, h4]
      · rfl
  unfold leavesP
  rw [hv]
  simp [cutP, ofAttr]
theorem leaves_attr {fs : List Ft} {ats : List Attr} {d : Nat} {T : Int → List It → List Int → Tr d} {e : Int} {a : Attr} (p q : List It) {path : List Int} : leavesP fs ats d T e (ofAttr a) p path = leavesP fs ats d T e (ofAttr a) q path := by
  have h : ∀ v, leafP d T (ofAttr a) p path v = leafP d T (ofAttr a) q path v := fun v => by
    rw [leafP_plain (.inr (by simp [withinP, ofAttr])), leafP_plain (.inr (by simp [withinP, ofAttr]))]
  unfold leavesP
  split
  · rfl
  · exact List.map_congr_left (fun v _ => h v)
theorem adds_skip {α T : Type} (f : α → Br T) (keep : α → Bool) : ∀ (xs : List α) (l : List (Br T)), (∀ x ∈ xs, keep x = false → (f x).2.2 = []) → ((xs.filter keep).map f).foldl addB l = (xs.map f).foldl addB l
  | [], l, _ => rfl
  | x :: r, l, h => by
    have ih := fun l => adds_skip f keep r l (fun y hy => h y (List.mem_cons_of_mem _ hy))
    cases hk : keep x with
    | true => rw [List.filter_cons_of_pos hk, List.map_cons, List.map_cons, List.foldl_cons, List.foldl_cons, ih]
    | false =>
      rw [List.filter_cons_of_neg (by simp [hk]), List.map_cons, List.foldl_cons, ih]
      have : addB l (f x) = l := by unfold addB; rw [if_pos (h x List.mem_cons_self hk)]
      rw [this]
def planR (fs : List Ft) (ats : List Attr) (d : Nat) (e : Int) (p : List It) (path : List Int) : List (Br (Tr d)) := (itemsR ats p).map (branchP fs ats d (treeP fs ats d) e p path)
theorem treeR_eq {fs : List Ft} {ats : List Attr} (hn : ats.Pairwise fun a b => a.name ≠ b.name) (d : Nat) (e : Int) (p : List It) (path : List Int) : treeP fs ats (d + 1) e p path = (planR fs ats d e p path).foldl addB [] := by
  show ((itemsP fs ats e p).map (branchP fs ats d (treeP fs ats d) e p path)).foldl addB [] = _
  unfold planR itemsP itemsR
  rw [List.map_append, List.map_append, List.foldl_append, List.foldl_append]
  by_cases hw : p.any It.wild = true
  · rw [if_pos hw, if_pos hw, List.map_map, List.map_map, ← adds_skip _ (fun a : Attr => fs.any fun f => f.e == e && f.a == a.id) (ats.filter fun a => !namedP p a.name), List.filter_filter]
    intro a ha h
    exact leaves_none (id_of hn (List.mem_filter.1 ha).1) h
  · rw [if_neg hw, if_neg hw]
theorem planR_size {fs : List Ft} {ats : List Attr} (hn : ats.Pairwise fun a b => a.name ≠ b.name) (d : Nat) (e : Int) (p : List It) (path : List Int) : Tr.size (d + 1) (treeP fs ats (d + 1) e p path) = brsSize (Tr.size d) (planR fs ats d e p path) := by
  rw [treeR_eq hn]
  show brsSize (Tr.size d) (List.foldl addB [] _) = _
  rw [adds_size]
  simp [brsSize]
/-- A tree under way. -/
structure RSt (d B : Nat) (lv av : Value) (n : Int) (w0 wr : World) (t9 : Value) (n1 : Int) (qs : List (BH (Tr d))) (bs : List (Br (Tr d))) : Prop where
  only : Only (· = B) w0 wr
  blk : Blk wr B [lv, av, .int .i64 n1] 57
  own : OwnBr (Tr d) w0.heap.size wr t9 qs
  ge : n ≤ n1
  le : n1 ≤ 10001 + ((d + 1 : Nat) : Int)
  good : n + (brsSize (Tr.size d) bs : Nat) ≤ 10000 → n1 = n + (brsSize (Tr.size d) bs : Nat) ∧ qs.map (·.1) = bs.foldl addB [] ∧ KeptAt (BrF d) w0.heap.size wr t9 qs
  bad : 10000 < n + (brsSize (Tr.size d) bs : Nat) → 10000 < n1
theorem brs_snoc {T : Type} (sz : T → Nat) (bs : List (Br T)) (b : Br T) : brsSize sz (bs ++ [b]) = brsSize sz bs + lfsSize sz b.2.2 := by
  rw [brs_append, brs_cons]; simp [brsSize]
section
variable {d B : Nat} {lv av : Value} {n n1 n2 : Int} {w0 wr w' w'' : World} {t9 v'' : Value} {qs : List (BH (Tr d))} {bs : List (Br (Tr d))} {la : Option Addr} {ll lc : Nat} {ls : List (Lf (Tr d))} {s : S} {bk : Bool}
theorem RSt.skip (h : RSt d B lv av n w0 wr t9 n1 qs bs) (hB : B < w0.heap.size) (hO : Only (· = B) wr w') (hb : Blk w' B [lv, av, .int .i64 n2] 57) (hl : LOut d wr.heap.size w' n1 n2 (.slice la 0 lc) ls) (hn : n1 ≤ 10000) :
    RSt d B lv av n w0 w' t9 n2 qs (bs ++ [(s, bk, ls)]) := by
  obtain ⟨l1, l2, l3, l4⟩ := hl
  have hge := h.ge
  have hbad := h.bad
  refine ⟨h.only.trans hO, hb, Own.turn h.own hO hB, by omega, l2, fun hs => ?_, fun hs => ?_⟩
  · rw [brs_snoc] at hs ⊢
    obtain ⟨g1, g2, g3⟩ := h.good (by omega)
    obtain ⟨m1, m2⟩ := l3 (by simp only at hs; omega)
    obtain ⟨a, c, e, -⟩ := m2.form
    injection e with e1 e2 e3
    have hls : ls = [] := List.eq_nil_of_length_eq_zero e2.symm
    subst hls
    refine ⟨by simp only [lfsSize, List.map_nil, List.sum_nil] at m1 ⊢; omega, ?_, g3.turn (BrF.loc d) hO hB⟩
    rw [List.foldl_append, g2]
    simp [addB]
  · rw [brs_snoc] at hs
    simp only at hs
    by_cases hs2 : n + (brsSize (Tr.size d) bs : Nat) ≤ 10000
    · have := (h.good hs2).1
      exact l4 (by omega)
    · have := hbad (by omega); omega
theorem RSt.put (h : RSt d B lv av n w0 wr t9 n1 qs bs) (hB : B < w0.heap.size) (hO : Only (· = B) wr w') (hb : Blk w' B [lv, av, .int .i64 n2] 57) (hl : LOut d wr.heap.size w' n1 n2 (.slice la ll lc) ls) (hn : n1 ≤ 10000) (hl0 : ll ≠ 0)
    (hB2 : Below w'.heap.size w' w'') (hp : OwnBr (Tr d) w'.heap.size w'' v'' (putH qs ((s, bk, ls), (⟨la, ll, lc⟩ : HD)))) : RSt d B lv av n w0 w'' v'' n2 (putH qs ((s, bk, ls), (⟨la, ll, lc⟩ : HD))) (bs ++ [(s, bk, ls)]) := by
  obtain ⟨l1, l2, l3, l4⟩ := hl
  have hge := h.ge
  have hbad := h.bad
  have hs0 := h.only.size
  have hs1 := hO.size
  have hs2 := hB2.size
  refine ⟨(h.only.trans hO).trans (Below.only hB2), hb.below hB2 hb.lt, Own.lower hp (by omega), by omega, l2, fun hs => ?_, fun hs => ?_⟩
  · rw [brs_snoc] at hs ⊢
    obtain ⟨g1, g2, g3⟩ := h.good (by omega)
    obtain ⟨m1, m2⟩ := l3 (by simp only at hs; omega)
    obtain ⟨a, c, e, -⟩ := m2.form
    injection e with e1 e2 e3
    have hls : ls ≠ [] := fun e => hl0 (by rw [e2, e]; rfl)
    refine ⟨by simp only; omega, ?_, fun p hp2 => ?_⟩
    · rw [putH_map, g2, List.foldl_append]
      simp [addB, hls]
    · have hown := Own.lt hp
      rcases putH_mem hp2 with rfl | hq
      · exact ⟨wr.heap.size, w'.heap.size, hs0, hs2, m2.agree (lfE_loc (TrIn.loc d)) (.below hB2 (Nat.le_refl _)), fun k hk => .inr (hown k hk).1⟩
      · obtain ⟨a, b, k1, k2, k3, k4⟩ := (g3.turn (BrF.loc d) hO hB) p hq
        exact ⟨a, b, k1, by omega, (BrF.loc d).agree k3 (.below hB2 k2), fun k hk => .inr (by have := (hown k hk).1; omega)⟩
  · rw [brs_snoc] at hs
    simp only at hs
    by_cases hs2 : n + (brsSize (Tr.size d) bs : Nat) ≤ 10000
    · have := (h.good hs2).1
      exact l4 (by omega)
    · have := hbad (by omega); omega
theorem RSt.below (h : RSt d B lv av n w0 wr t9 n1 qs bs) (hB : B < w0.heap.size) (hb : Below wr.heap.size wr w') : RSt d B lv av n w0 w' t9 n1 qs bs :=
  ⟨h.only.trans (Below.only hb), h.blk.below hb h.blk.lt, Own.kept h.own hb, h.ge, h.le, fun hs => by
    obtain ⟨g1, g2, g3⟩ := h.good hs
    exact ⟨g1, g2, g3.turn (BrF.loc d) (Below.only hb) hB⟩, h.bad⟩
theorem RSt.out {full r : List (Br (Tr d))} {t : Tr (d + 1)} (h : RSt d B lv av n w0 wr t9 n1 qs bs) (hf : full = bs ++ r) (he : 10000 < n1 ∨ r = []) (ht : t = full.foldl addB []) (hz : Tr.size (d + 1) t = brsSize (Tr.size d) full) : TOut (d + 1) w0.heap.size wr n n1 t9 t := by
  have hge := h.ge
  have hbad := h.bad
  have hsz : brsSize (Tr.size d) full = brsSize (Tr.size d) bs + brsSize (Tr.size d) r := by rw [hf, brs_append]
  refine ⟨hge, h.le, fun hs => ?_, fun hs => ?_⟩
  · rw [hz] at hs ⊢
    obtain ⟨g1, g2, g3⟩ := h.good (by omega)
    rcases he with he | he
    · omega
    · subst he
      rw [List.append_nil] at hf
      subst hf
      refine ⟨g1, ?_⟩
      rw [ht, ← g2]
      exact BrsOk.sl (fun p hp => g3.all (BrF.loc d) p hp) (OwnBr.sl h.own)
  · rw [hz] at hs
    rcases he with he | he
    · exact he
    · subst he
      rw [List.append_nil] at hf
      subst hf
      exact hbad hs
end
set_option maxRecDepth 100000 in
set_option maxHeartbeats 16000000 in
theorem refTree_succ (d : Nat) (ih : RTree d) : RTree (d + 1) := by
  intro B hA D lo hi lo2 hi2 lv av fs ats n e ps path v pv w hP hp hpa hF hfine R hR
  have hn0 := hF.n0
  have hn1 := hF.n1
  have hd1 := hF.d1
  have hplen := hp.len
  have hp63 := hp.sl.len
  have hBb := hP.blk.lt
  have hatl := hF.atl
  obtain ⟨ap, cp, rfl, -⟩ := hp.sl.form
  obtain ⟨aq, cq, rfl, -⟩ := hpa.sl.form
  obtain ⟨aa, ca, rfl, -⟩ := hP.attrs.form
  obtain ⟨np, hnp⟩ : ∃ np, np = ps.length := ⟨_, rfl⟩
  obtain ⟨na, hna⟩ : ∃ na, na = ats.length := ⟨_, rfl⟩
  rw [← hnp] at hplen hp63 ⊢
  rw [← hna] at hatl hP hR
  have Hnp := Lib.hid hnp
  have Hna := Lib.hid hna
  have HR := Lib.hid hR
  have HP := Lib.hid hP
  have Hp := Lib.hid hp
  have Hpa := Lib.hid hpa
  have HF := Lib.hid hF
  have Hfine := Lib.hid hfine
  have hBz : B < w.heap.size := hBb
  obtain ⟨bf, hbf⟩ : ∃ bf, bf = branchP fs ats d (treeP fs ats d) e (ps.map (·.1)) path := ⟨_, rfl⟩
  obtain ⟨full, hfull⟩ : ∃ full, full = planR fs ats d e (ps.map (·.1)) path := ⟨_, rfl⟩
  have Htree : Hid (treeP fs ats (d + 1) e (ps.map (·.1)) path = full.foldl addB []) := Lib.hid (by rw [hfull]; exact treeR_eq hF.names d e _ path)
  have Hsize : Hid (Tr.size (d + 1) (treeP fs ats (d + 1) e (ps.map (·.1)) path) = brsSize (Tr.size d) full) := Lib.hid (by rw [hfull]; exact planR_size hF.names d e _ path)
  have Hbf := Lib.hid hbf
  obtain ⟨bs1, hbs1⟩ : ∃ bs1 : Nat → List (Br (Tr d)), bs1 = fun k => ((((ps.map (·.1)).take k).filter (fun i => !i.wild))).map bf := ⟨_, rfl⟩
  obtain ⟨bs2, hbs2⟩ : ∃ bs2 : Nat → List (Br (Tr d)), bs2 = fun k => ((ats.take k).filter (fun a => !namedP (ps.map (·.1)) a.name)).map (fun a => bf (ofAttr a)) := ⟨_, rfl⟩
  have Hbs1 := Lib.hid hbs1
  have Hbs2 := Lib.hid hbs2
  obtain ⟨wall, hwall⟩ : ∃ wall, wall = (ps.map (·.1)).any It.wild := ⟨_, rfl⟩
  have Hwall := Lib.hid hwall
  have Hfull : Hid (full = bs1 np ++ if wall then bs2 na else []) := Lib.hid (by
    rw [hfull, hwall]
    unfold planR itemsR
    simp only [hbs1, hbs2]
    rw [List.map_append, ← hbf, List.take_of_length_le (by rw [List.length_map]; omega), List.take_of_length_le (by omega)]
    congr 1
    split
    · rw [List.map_map]; rfl
    · rfl)
  have Hpre : Hid (∀ k, ∃ r, bs1 np = bs1 k ++ r) := Lib.hid (fun k => by
    refine ⟨(((ps.map (·.1)).drop k).filter (fun i => !i.wild)).map bf, ?_⟩
    rw [hbs1]
    simp only
    rw [← List.map_append, ← List.filter_append, List.take_append_drop, List.take_of_length_le (by rw [List.length_map]; omega)])
  clear hR hP hp hpa hF hfine hnp hna hbf hfull hbs1 hbs2 hwall
  go_enter Try.func20, Try.ntmps20
  go_upto_block 0 with fail
  go_cut [9, 10] (fun t9 t10 wx => ∃ (n1 : Int) (qs : List (BH (Tr d))) (bs : List (Br (Tr d))) (wb : Bool), t10 = .bool wb ∧ qs.length ≤ np ∧ Hid (RSt d B lv (.slice aa na ca) n w wx t9 n1 qs bs) ∧ Hid ((10000 < n1 ∧ ∃ r, full = bs ++ r) ∨ (bs = bs1 np ∧ wb = wall)))
  case first =>
    go_wp2_with fail
    go_loopw [9, 10, 11] (fun t9 t10 t11 wr => ∃ (k : Nat) (n1 : Int) (qs : List (BH (Tr d))) (wb : Bool), k ≤ np ∧ t11 = .int .i64 k ∧ t10 = .bool wb ∧ qs.length ≤ k ∧ RSt d B lv (.slice aa na ca) n w wr t9 n1 qs (bs1 k) ∧ Hid (wb = ((ps.map (·.1)).take k).any It.wild)) (fun _ _ t11 _ => np - (intOf t11).toNat)
    case atStart => exact ⟨0, n, [], false, Nat.zero_le _, rfl, rfl, Nat.le_refl _, ⟨Only.refl _ _, HP.out.blk, Own.nil _ _ _ _ _, Int.le_refl _, by omega, fun _ => ⟨by rw [Hbs1.out]; simp [brsSize], by rw [Hbs1.out]; simp, KeptAt.nil⟩, fun h => by rw [Hbs1.out] at h; simp [brsSize] at h; omega⟩, Lib.hid (by simp)⟩
    case round =>
      obtain ⟨k, n1, qs, wb, hk, rfl, rfl, hqk, hst, Hwb⟩ := hrel
      obtain ⟨wo, ewo⟩ : ∃ x, x = wr := ⟨_, rfl⟩
      subst ewo
      have Hst := Lib.hid hst
      have Hqk := Lib.hid hqk
      have hz := hst.only.size
      have hnle := hst.le
      have hnge := hst.ge
      have kk0 : (0 : Int) ≤ (k : Int) := by omega
      obtain ⟨p9, q9, e9⟩ := Own.slice hst.own
      subst e9
      have y2 := hst.blk.cells 2 _ rfl
      simp only [Nat.zero_add] at y2
      clear hst hqk
      by_cases hlt : k < np
      · have kkl : (k : Int) < (np : Int) := by omega
        by_cases hgr : n1 ≤ 10000
        · have hj : k < ps.length := by have := Hnp.out; omega
          have Hpo := Lib.hid (Hp.out.turn Hst.out.only)
          obtain ⟨ao', cap', e', -, -, -, hc⟩ := Hpo.out.sl.form
          injection e' with e1 e2 e3
          subst e1 e3
          obtain ⟨b, off, rfl, hb1, hb2, hcc⟩ := hc k hj
          obtain ⟨cs, -, hcs, e4⟩ := hcc k hj
          have e5 : cs = IH.enc ps[k] := e4
          rw [e5] at hcs
          have hbl : b < wo.heap.size := by have := Hpo.out.le; omega
          have HblO : Hid (lo ≤ b ∧ b < hi) := Lib.hid ⟨hb1, hb2⟩
          have Hstep : Hid ((ps.map (·.1)).take (k + 1) = (ps.map (·.1)).take k ++ [ps[k].1]) := Lib.hid (by
            rw [List.take_succ_eq_append_getElem (by rw [List.length_map]; exact hj), List.getElem_map])
          have Hb1 : Hid (∃ z, z = ps[k]) := Lib.hid ⟨_, rfl⟩
          obtain ⟨z, hz2⟩ := Hb1.out
          have Hz := Lib.hid hz2
          rw [← hz2] at hcs Hstep
          obtain ⟨x, xp, xc⟩ := z
          have hcs2 : CellsAt wo b (off + k * 11) [.bool x.wild, .string ⟨x.attr.toArray⟩, .bool x.back, .int .i64 x.limit, .bool x.has, .int .i64 x.dflt.kind, .int .i64 x.dflt.n, .string ⟨x.dflt.s.toArray⟩, .bool x.nested, .slice xp x.sub.length xc, .int .i64 x.rc] := hcs
          obtain ⟨wd, hwd⟩ : ∃ wd, wd = x.wild := ⟨_, rfl⟩
          have Hwd := Lib.hid hwd
          rw [← hwd] at hcs2
          have Hit := Lib.hid hcs2
          obtain ⟨x0, x1, x2, x3, x4, x5, x6, x7, x8, x9, x10⟩ := item_cells hcs2
          clear hc hcc e4 e5 e2 hcs hcs2 hz2 hwd Hb1 hb1 hb2 x3 x4 x5 x6 x7 x8 x9 x10 cs
          cases wd with
          | true =>
            have Hb2 : Hid (bs1 (k + 1) = bs1 k) := Lib.hid (by
              rw [Hbs1.out]
              simp only
              rw [Hstep.out, List.filter_append, List.filter_cons_of_neg (by rw [← Hwd.out]; simp)]
              simp)
            clear x1 x2
            go_wp2_with fail
            go_roundw
            case rel => exact ⟨k + 1, n1, qs, true, by omega, by go_num, rfl, by have := Hqk.out; omega, by rw [Hb2.out]; exact Hst.out, Lib.hid (by rw [Hstep.out, List.any_append]; simp [← Hwd.out])⟩
            case measure => simp [intOf]; omega
          | false =>
            have Hb2 : Hid (bs1 (k + 1) = bs1 k ++ [bf x]) := Lib.hid (by
              rw [Hbs1.out]
              simp only
              rw [Hstep.out, List.filter_append, List.filter_cons_of_pos (by rw [← Hwd.out]; simp)]
              simp)
            have Hwb2 : Hid (wb = ((ps.map (·.1)).take (k + 1)).any It.wild) := Lib.hid (by rw [Hstep.out, List.any_append, Hwb.out]; simp [← Hwd.out])
            have Hpao := Lib.hid (Hpa.out.turn Hst.out.only)
            have HPo := Lib.hid (HP.out.turn Hst.out.only Hst.out.blk)
            have hw0 : ps[k].1.wild = false := by rw [← Hz.out]; exact Hwd.out.symm
            have HF2 : Hid (Fit fs ats (d + 1) n1 path) := Lib.hid ⟨HF.out.fsl, HF.out.atl, HF.out.names, HF.out.lns, by omega, hgr, by have := HF.out.d0; omega, hd1, HF.out.pth⟩
            have Hpo2 : Hid (Pat B D lo hi wo (.slice (some ⟨b, off, none⟩) np cp) ps) := Lib.hid (by rw [Hnp.out]; exact Hpo.out)
            go_wp2_with fail
            refine refLeaves_any d ih B hA D lo hi lo2 hi2 lv (.slice aa na ca) fs ats n1 e ps k path _ _ wo HPo.out Hpo2.out Hpao.out HF2.out hj hw0 (.inl Hfine.out) _ (fun ws n2 la ll lc hOs hbs houts => ?_)
            have hzs := hOs.size
            obtain ⟨LS, hLS⟩ : ∃ LS, LS = leavesP fs ats d (treeP fs ats d) e x (ps.map (·.1)) path := ⟨_, rfl⟩
            rw [← Hz.out, ← hLS] at houts
            have Hbx : Hid (bf x = (x.attr, x.back, LS)) := Lib.hid (by rw [Hbf.out, hLS]; rfl)
            clear hLS hw0 x1 x2 y2
            rcases Nat.eq_zero_or_pos ll with hl0 | hl0
            · subst hl0
              have Hs2 := Lib.hid (RSt.skip (s := x.attr) (bk := x.back) Hst.out hBz hOs hbs houts hgr)
              clear hOs hbs houts
              go_wp2_with fail
              go_roundw
              case rel => exact ⟨k + 1, n2, qs, wb, by omega, by go_num, rfl, by have := Hqk.out; omega, by rw [Hb2.out, Hbx.out]; exact Hs2.out, Hwb2⟩
              case measure => simp [intOf]; omega
            · have hl1 : (0 : Int) < (ll : Int) := by omega
              have Hs2 : Hid (∀ w'' v'', Below ws.heap.size ws w'' → OwnBr (Tr d) ws.heap.size w'' v'' (putH qs ((x.attr, x.back, LS), (⟨la, ll, lc⟩ : HD))) → RSt d B lv (.slice aa na ca) n w w'' v'' n2 (putH qs ((x.attr, x.back, LS), (⟨la, ll, lc⟩ : HD))) (bs1 (k + 1))) := Lib.hid (fun w'' v'' h1 h2 => by rw [Hb2.out, Hbx.out]; exact RSt.put Hst.out hBz hOs hbs houts hgr (by omega) h1 h2)
              obtain ⟨nq, hnq⟩ : ∃ nq, nq = qs.length := ⟨_, rfl⟩
              have Hnq := Lib.hid hnq
              have Hown2 := Lib.hid (Own.turn Hst.out.own hOs hBz)
              have Hit2 : Hid (CellsAt ws b (off + k * 11) [.bool false, .string ⟨x.attr.toArray⟩, .bool x.back, .int .i64 x.limit, .bool x.has, .int .i64 x.dflt.kind, .int .i64 x.dflt.n, .string ⟨x.dflt.s.toArray⟩, .bool x.nested, .slice xp x.sub.length xc, .int .i64 x.rc]) := Lib.hid (Hit.out.agree (lo := lo) (hi := hi) (hOs.agree Hpo.out.le (fun k e => by have : k = B := e; have := Hpo.out.apart; omega)) HblO.out.1 HblO.out.2)
              have Hbl2 : Hid (b < ws.heap.size) := Lib.hid (by omega)
              rw [← hnq]
              clear hOs hbs houts hnq
              go_upto_region 10 with fail
              refine wp_region_held_drew (S := fun w' => Below ws.heap.size ws w') (by kernel_rfl) (Below.refl _ _).drew (fun hHeld => ?_)
              refine wpAnyH_take (i := 0) (v := .slice p9 nq q9) rfl (by kernel_rfl) (by kernel_rfl) (by kernel_rfl) (fun _ _ _ h => h) (Or.inl ⟨by rfl, ?_⟩) hHeld ?_
              · intro w' hSw; go_simp
              try simp only [ν1, ν2, ν3, ν4, ν5, ν6, ν7, ν8]
              refine wpAnyH_take (i := 1) (v := .slice (some ⟨b, off, none⟩) np cp) rfl (by kernel_rfl) (by kernel_rfl) (by kernel_rfl) (fun _ _ _ h => h) (Or.inl ⟨by rfl, ?_⟩) hHeld ?_
              · intro w' hSw; go_simp
              try simp only [ν1, ν2, ν3, ν4, ν5, ν6, ν7, ν8]
              refine wpAnyH_take (i := 2) (v := .int .i64 ((k : Int))) rfl (by kernel_rfl) (by kernel_rfl) (by kernel_rfl) (fun _ _ _ h => h) (Or.inl ⟨by rfl, ?_⟩) hHeld ?_
              · intro w' hSw; go_simp
              try simp only [ν1, ν2, ν3, ν4, ν5, ν6, ν7, ν8]
              refine wpAnyH_take (i := 3) (v := .pointer (some ⟨b, off + k * 11, none⟩)) rfl (by kernel_rfl) (by kernel_rfl) (by kernel_rfl) (fun _ _ _ h => h) (Or.inl ⟨by rfl, ?_⟩) hHeld ?_
              · intro w' hSw; go_simp
              try simp only [ν1, ν2, ν3, ν4, ν5, ν6, ν7, ν8]
              refine wpAnyH_take (i := 4) (v := .pointer (some ⟨b, off + k * 11 + 1, none⟩)) rfl (by kernel_rfl) (by kernel_rfl) (by kernel_rfl) (fun _ _ _ h => h) (Or.inl ⟨by rfl, ?_⟩) hHeld ?_
              · intro w' hSw; go_simp
              try simp only [ν1, ν2, ν3, ν4, ν5, ν6, ν7, ν8]
              refine wpAnyH_take (i := 5) (v := .string ⟨x.attr.toArray⟩) rfl (by kernel_rfl) (by kernel_rfl) (by kernel_rfl) (fun _ _ _ h => h) (Or.inl ⟨by rfl, ?_⟩) hHeld ?_
              · intro w' hSw; obtain ⟨k0, k1, k2, k3, k4, k5, k6, k7, k8, k9, k10⟩ := item_cells (Hit2.out.agree (.below hSw (Nat.le_refl _)) (Nat.zero_le _) Hbl2.out); go_simp
              try simp only [ν1, ν2, ν3, ν4, ν5, ν6, ν7, ν8]
              refine wpAnyH_take (i := 6) (v := .slice (some ⟨b, off, none⟩) np cp) rfl (by kernel_rfl) (by kernel_rfl) (by kernel_rfl) (fun _ _ _ h => h) (Or.inl ⟨by rfl, ?_⟩) hHeld ?_
              · intro w' hSw; go_simp
              try simp only [ν1, ν2, ν3, ν4, ν5, ν6, ν7, ν8]
              refine wpAnyH_take (i := 7) (v := .int .i64 ((k : Int))) rfl (by kernel_rfl) (by kernel_rfl) (by kernel_rfl) (fun _ _ _ h => h) (Or.inl ⟨by rfl, ?_⟩) hHeld ?_
              · intro w' hSw; go_simp
              try simp only [ν1, ν2, ν3, ν4, ν5, ν6, ν7, ν8]
              refine wpAnyH_take (i := 8) (v := .pointer (some ⟨b, off + k * 11, none⟩)) rfl (by kernel_rfl) (by kernel_rfl) (by kernel_rfl) (fun _ _ _ h => h) (Or.inl ⟨by rfl, ?_⟩) hHeld ?_
              · intro w' hSw; go_simp
              try simp only [ν1, ν2, ν3, ν4, ν5, ν6, ν7, ν8]
              refine wpAnyH_take (i := 9) (v := .pointer (some ⟨b, off + k * 11 + 2, none⟩)) rfl (by kernel_rfl) (by kernel_rfl) (by kernel_rfl) (fun _ _ _ h => h) (Or.inl ⟨by rfl, ?_⟩) hHeld ?_
              · intro w' hSw; go_simp
              try simp only [ν1, ν2, ν3, ν4, ν5, ν6, ν7, ν8]
              refine wpAnyH_take (i := 10) (v := .bool x.back) rfl (by kernel_rfl) (by kernel_rfl) (by kernel_rfl) (fun _ _ _ h => h) (Or.inl ⟨by rfl, ?_⟩) hHeld ?_
              · intro w' hSw; obtain ⟨k0, k1, k2, k3, k4, k5, k6, k7, k8, k9, k10⟩ := item_cells (Hit2.out.agree (.below hSw (Nat.le_refl _)) (Nat.zero_le _) Hbl2.out); go_simp
              try simp only [ν1, ν2, ν3, ν4, ν5, ν6, ν7, ν8]
              refine wpAnyH_take (i := 11) (v := .slice la ll lc) rfl (by kernel_rfl) (by kernel_rfl) (by kernel_rfl) (fun _ _ _ h => h) (Or.inl ⟨by rfl, ?_⟩) hHeld ?_
              · intro w' hSw; go_simp
              try simp only [ν1, ν2, ν3, ν4, ν5, ν6, ν7, ν8]
              refine wpAnyH_take (i := 12) (v := .agg #[.string ⟨x.attr.toArray⟩, .bool x.back, .slice la ll lc]) rfl (by kernel_rfl) (by kernel_rfl) (by kernel_rfl) (fun _ _ _ h => h) (Or.inl ⟨by rfl, ?_⟩) hHeld ?_
              · intro w' hSw; go_simp
              try simp only [ν1, ν2, ν3, ν4, ν5, ν6, ν7, ν8]
              refine wpAnyH_ready (rs := [13]) (by kernel_rfl) (by simp) ?_
              refine allCall (f := 33) (args := #[.slice p9 nq q9, .agg #[.string ⟨x.attr.toArray⟩, .bool x.back, .slice la ll lc]]) rfl (by kernel_rfl) (by kernel_rfl) ?_ AllReadyH.nil
              rw [Hnq.out]
              refine refPut_any w.heap.size ws.heap.size qs ((x.attr, x.back, LS), (⟨la, ll, lc⟩ : HD)) _ ws.drew (Sl.mono (OwnBr.sl (Own.kept Hown2.out hHeld)) (flat_loc _) (Nat.le_refl _) (Nat.le_refl _)) (Nat.le_refl _) (by have := Hqk.out; omega) _ (fun wp vp hBp hop => ?_)
              refine ⟨_, rfl, hHeld.trans (hBp.mono hHeld.size), ?_⟩
              have hHeld2 := hHeld.trans (hBp.mono hHeld.size)
              clear hHeld
              have hHeld := hHeld2
              clear hHeld2
              try simp only [ν1, ν2, ν3, ν4, ν5, ν6, ν7, ν8]
              refine wpAnyH_take (i := 14) (v := vp) rfl (by kernel_rfl) (by kernel_rfl) (by kernel_rfl) (fun _ _ _ h => h) (Or.inl ⟨by rfl, ?_⟩) hHeld ?_
              · intro w' hSw; go_simp
              try simp only [ν1, ν2, ν3, ν4, ν5, ν6, ν7, ν8]
              refine wpAnyH_done (by kernel_rfl) ?_ _
              have hBpp := hHeld
              clear hHeld
              have Hs3 := Lib.hid (Hs2.out wp vp hBpp hop)
              have Hqk2 : Hid ((putH qs ((x.attr, x.back, LS), (⟨la, ll, lc⟩ : HD))).length ≤ k + 1) := Lib.hid (by rw [putH_len]; have := Hqk.out; omega)
              clear hBpp hop hBp
              go_wp2_with fail
              go_roundw
              case rel => exact ⟨k + 1, n2, _, wb, by omega, by go_num, rfl, Hqk2.out, Hs3.out, Hwb2⟩
              case measure => simp [intOf]; omega
        · have HE : Hid (10000 < n1 ∧ ∃ r, full = bs1 k ++ r) := Lib.hid ⟨by omega, by
            obtain ⟨r, hr⟩ := Hpre.out k
            exact ⟨r ++ (if wall then bs2 na else []), by rw [Hfull.out, hr, List.append_assoc]⟩⟩
          go_wp2_with fail
          go_meet
          exact ⟨n1, qs, bs1 k, wb, rfl, by have := Hqk.out; omega, Hst, Lib.hid (.inl HE.out)⟩
      · have hke : k = np := by omega
        have kkl : ¬ ((k : Nat) : Int) < (np : Int) := by omega
        go_wp2_with fail
        go_meet
        exact ⟨n1, qs, bs1 k, wb, rfl, by have := Hqk.out; omega, Hst, Lib.hid (.inr ⟨by rw [hke], by rw [Hwb.out, Hwall.out, List.take_of_length_le (by rw [List.length_map]; have := Hnp.out; omega)]⟩)⟩
  case rest =>
    obtain ⟨m1, ms, cs1, wb, rfl, hql, Hst0, HE0⟩ := hcut
    obtain ⟨wm, ewm⟩ : ∃ x, x = wc := ⟨_, rfl⟩
    subst ewm
    obtain ⟨p8, q8, e8⟩ := Own.slice Hst0.out.own
    subst e8
    have Hpre2 : Hid (∀ k, ∃ r, bs2 na = bs2 k ++ r) := Lib.hid (fun k => by
      refine ⟨((ats.drop k).filter (fun a => !namedP (ps.map (·.1)) a.name)).map (fun a => bf (ofAttr a)), ?_⟩
      rw [Hbs2.out]
      simp only
      rw [← List.map_append, ← List.filter_append, List.take_append_drop, List.take_of_length_le (by have := Hna.out; omega)])
    have Hb20 : Hid (bs2 0 = []) := Lib.hid (by rw [Hbs2.out]; simp)
    have Hql := Lib.hid hql
    clear hql
    go_upto_block 2 with fail
    go_cut [9] (fun t9 wx => ∃ (n1 : Int) (a : Option Addr) (l c : Nat), t9 = .slice a l c ∧ Only (· = B) w wx ∧ Blk wx B [lv, .slice aa na ca, .int .i64 n1] 57 ∧ Hid (TOut (d + 1) w.heap.size wx n n1 t9 (treeP fs ats (d + 1) e (ps.map (·.1)) path)))
    case first =>
      go_wp2_with fail
      go_loopw [9, 13] (fun t9 t13 wr => ∃ (k : Nat) (n1 : Int) (qs : List (BH (Tr d))) (bs : List (Br (Tr d))), k ≤ na ∧ t13 = .int .i64 k ∧ qs.length ≤ np + k ∧ RSt d B lv (.slice aa na ca) n w wr t9 n1 qs bs ∧ Hid ((10000 < n1 ∧ ∃ r, full = bs ++ r) ∨ (bs = bs1 np ++ bs2 k ∧ wb = wall ∧ (wb = false → k = 0)))) (fun _ t13 _ => na - (intOf t13).toNat)
      case atStart => exact ⟨0, m1, ms, cs1, Nat.zero_le _, rfl, Hql.out, Hst0.out, Lib.hid (HE0.out.imp id (fun ⟨h1, h2⟩ => ⟨by rw [h1, Hb20.out, List.append_nil], h2, fun _ => rfl⟩))⟩
      case round =>
        obtain ⟨k, n1, qs, bs, hk, rfl, hqk, hst, HE⟩ := hrel
        obtain ⟨wo, ewo⟩ : ∃ x, x = wr := ⟨_, rfl⟩
        subst ewo
        have Hst := Lib.hid hst
        have Hqk := Lib.hid hqk
        have hz := hst.only.size
        have hnle := hst.le
        have hnge := hst.ge
        have kk0 : (0 : Int) ≤ (k : Int) := by omega
        obtain ⟨p9, q9, e9⟩ := Own.slice hst.own
        subst e9
        have y2 := hst.blk.cells 2 _ rfl
        have y1 := hst.blk.cells 1 _ rfl
        simp only [Nat.zero_add] at y1 y2
        have Hend : Hid ((10000 < n1 ∨ wb = false ∨ k = na) → TOut (d + 1) w.heap.size wo n n1 (.slice p9 qs.length q9) (treeP fs ats (d + 1) e (ps.map (·.1)) path)) := Lib.hid (fun h => by
          have key : ∃ r, full = bs ++ r ∧ (10000 < n1 ∨ r = []) := by
            rcases HE.out with ⟨h1, r, hr⟩ | ⟨h1, h2, h3⟩
            · exact ⟨r, hr, .inl h1⟩
            · by_cases hw : wb = true
              · obtain ⟨r, hr⟩ := Hpre2.out k
                refine ⟨r, by rw [Hfull.out, ← h2, if_pos hw, hr, h1, List.append_assoc], ?_⟩
                rcases h with h | h | h
                · exact .inl h
                · rw [hw] at h; cases h
                · subst h
                  right
                  have := congrArg List.length hr
                  rw [List.length_append] at this
                  exact List.eq_nil_of_length_eq_zero (by omega)
              · have hk0 := h3 (by simpa using hw)
                subst hk0
                exact ⟨[], by rw [Hfull.out, ← h2, if_neg hw, h1, Hb20.out]; simp, .inr rfl⟩
          obtain ⟨r, h1, h2⟩ := key
          exact RSt.out Hst.out h1 h2 Htree.out Hsize.out)
        clear hst hqk
        by_cases hlt : k < na
        · have kkl : (k : Int) < (na : Int) := by omega
          cases wb with
          | false =>
            have HT := Lib.hid (Hend.out (.inr (.inl rfl)))
            go_wp2_with fail
            go_meet
            exact ⟨n1, p9, qs.length, q9, rfl, Hst.out.only, Hst.out.blk, HT⟩
          | true =>
            by_cases hgr : n1 ≤ 10000
            · have Hbs : Hid (bs = bs1 np ++ bs2 k ∧ true = wall) := Lib.hid (by
                rcases HE.out with ⟨h, -⟩ | ⟨h1, h2, -⟩
                · omega
                · exact ⟨h1, h2⟩)
              have Hpo := Lib.hid (Hp.out.turn Hst.out.only)
              have Hpao := Lib.hid (Hpa.out.turn Hst.out.only)
              have HPo := Lib.hid (HP.out.turn Hst.out.only Hst.out.blk)
              have hkn : k < ats.length := by have := Hna.out; omega
              obtain ⟨ao', cap', e', -, -, -, hc⟩ := HPo.out.attrs.form
              injection e' with e1 e2 e3
              subst e1 e3
              obtain ⟨ba, oa, rfl, hb1, hb2, hcc⟩ := hc k hkn
              obtain ⟨cs, -, hcs, e4⟩ := hcc k hkn
              have e5 : cs = Attr.enc ats[k] := e4
              rw [e5] at hcs
              have hal : ba < wo.heap.size := by have := HPo.out.le; omega
              have Hba : Hid (B + 1 ≤ ba ∧ ba < hA) := Lib.hid ⟨hb1, hb2⟩
              have Hmem : Hid (ats[k] ∈ ats) := Lib.hid (List.getElem_mem hkn)
              have Hstep : Hid (ats.take (k + 1) = ats.take k ++ [ats[k]]) := Lib.hid (List.take_succ_eq_append_getElem hkn)
              generalize ats[k] = A at *
              unfold Attr.enc at hcs
              have Hat0 := Lib.hid hcs
              have Hal0 : Hid (ba < wo.heap.size) := Lib.hid hal
              have HgoN : Hid (namedP (ps.map (·.1)) A.name = true → bs2 (k + 1) = bs2 k) := Lib.hid (fun h => by
                rw [Hbs2.out]
                simp only
                rw [Hstep.out, List.filter_append, List.filter_cons_of_neg (by simp [h])]
                simp)
              have HgoB : Hid (namedP (ps.map (·.1)) A.name = false → bs2 (k + 1) = bs2 k ++ [bf (ofAttr A)]) := Lib.hid (fun h => by
                rw [Hbs2.out]
                simp only
                rw [Hstep.out, List.filter_append, List.filter_cons_of_pos (by simp [h])]
                simp)
              clear hc hcc e4 e5 e2 hcs hb1 hb2 cs
              go_wp2_with fail
              go_loopw [14, 15] (fun t14 t15 wr => ∃ (i : Nat) (nm : Bool), i ≤ np ∧ t15 = .int .i64 i ∧ t14 = .bool nm ∧ Hid (nm = ((ps.map (·.1)).take i).any (fun i => !i.wild && i.attr == A.name && !i.back)) ∧ Below wo.heap.size wo wr) (fun _ t15 _ => np - (intOf t15).toNat)
              case atStart => exact ⟨0, false, Nat.zero_le _, rfl, rfl, Lib.hid (by simp), Below.refl _ _⟩
              case round =>
                obtain ⟨i, nm, hi, rfl, rfl, Hnm, hBi⟩ := hrel
                obtain ⟨wi, ewi⟩ : ∃ x, x = wr := ⟨_, rfl⟩
                subst ewi
                have HBi := Lib.hid hBi
                have hzi := hBi.size
                have ii0 : (0 : Int) ≤ (i : Int) := by omega
                have Hblk2 := Lib.hid (Hst.out.blk.below hBi Hst.out.blk.lt)
                have Hat := Lib.hid (Hat0.out.agree (.below hBi (Nat.le_refl _)) (Nat.zero_le _) Hal0.out)
                have Hal : Hid (ba < wi.heap.size) := Lib.hid (by omega)
                clear hBi
                by_cases hil : i < np
                · have iil : (i : Int) < (np : Int) := by omega
                  have hij : i < ps.length := by have := Hnp.out; omega
                  have Hpi := Lib.hid (Hpo.out.turn (Below.only HBi.out))
                  obtain ⟨ao', cap', e', -, -, -, hc⟩ := Hpi.out.sl.form
                  injection e' with e1 e2 e3
                  subst e1 e3
                  obtain ⟨b, off, rfl, hb1, hb2, hcc⟩ := hc i hij
                  obtain ⟨cs, -, hcs, e4⟩ := hcc i hij
                  have e5 : cs = IH.enc ps[i] := e4
                  rw [e5] at hcs
                  have Hbl : Hid (b < wi.heap.size) := Lib.hid (by have := Hpi.out.le; omega)
                  have Hany : Hid (((ps.map (·.1)).take (i + 1)).any (fun i => !i.wild && i.attr == A.name && !i.back) = (((ps.map (·.1)).take i).any (fun i => !i.wild && i.attr == A.name && !i.back) || (!ps[i].1.wild && ps[i].1.attr == A.name && !ps[i].1.back))) := Lib.hid (by
                    rw [any_take_succ _ _ _ (by rw [List.length_map]; exact hij), List.getElem_map])
                  generalize ps[i] = z at *
                  obtain ⟨y, yp, yc⟩ := z
                  have hcs2 : CellsAt wi b (off + i * 11) [.bool y.wild, .string ⟨y.attr.toArray⟩, .bool y.back, .int .i64 y.limit, .bool y.has, .int .i64 y.dflt.kind, .int .i64 y.dflt.n, .string ⟨y.dflt.s.toArray⟩, .bool y.nested, .slice yp y.sub.length yc, .int .i64 y.rc] := hcs
                  simp only at Hany
                  clear hc hcc e4 e5 e2 hcs hb1 hb2 cs
                  cases nm with
                  | true =>
                    have Hit := Lib.hid hcs2
                    have Hfy : Hid ((true || (!y.wild && y.attr == A.name && !y.back)) = true) := Lib.hid rfl
                    clear hcs2
                    go_upto_region 18 with fail
                    refine wp_region_held_drew (S := fun w' => Below wi.heap.size wi w') (by kernel_rfl) (Below.refl _ _).drew (fun hHeld => ?_)
                    refine wpAnyH_take (i := 0) (v := .bool true) rfl (by kernel_rfl) (by kernel_rfl) (by kernel_rfl) (fun _ _ _ h => h) (Or.inl ⟨by rfl, ?_⟩) hHeld ?_
                    · intro w' hSw; go_simp
                    try simp only [ν1, ν2, ν3, ν4, ν5, ν6, ν7, ν8]
                    refine wpAnyH_take (i := 1) (v := .bool true) rfl (by kernel_rfl) (by kernel_rfl) (by kernel_rfl) (fun _ _ _ h => h) (Or.inl ⟨by rfl, ?_⟩) hHeld ?_
                    · intro w' hSw; go_simp
                    try simp only [ν1, ν2, ν3, ν4, ν5, ν6, ν7, ν8]
                    refine wpAnyH_take (i := 2) (v := undef) rfl (by kernel_rfl) (by kernel_rfl) (by kernel_rfl) (fun _ _ _ h => h) (Or.inr ⟨by kernel_rfl, rfl⟩) hHeld ?_
                    try simp only [ν1, ν2, ν3, ν4, ν5, ν6, ν7, ν8]
                    refine wpAnyH_take (i := 3) (v := undef) rfl (by kernel_rfl) (by kernel_rfl) (by kernel_rfl) (fun _ _ _ h => h) (Or.inr ⟨by kernel_rfl, rfl⟩) hHeld ?_
                    try simp only [ν1, ν2, ν3, ν4, ν5, ν6, ν7, ν8]
                    refine wpAnyH_take (i := 4) (v := undef) rfl (by kernel_rfl) (by kernel_rfl) (by kernel_rfl) (fun _ _ _ h => h) (Or.inr ⟨by kernel_rfl, rfl⟩) hHeld ?_
                    try simp only [ν1, ν2, ν3, ν4, ν5, ν6, ν7, ν8]
                    refine wpAnyH_take (i := 5) (v := undef) rfl (by kernel_rfl) (by kernel_rfl) (by kernel_rfl) (fun _ _ _ h => h) (Or.inr ⟨by kernel_rfl, rfl⟩) hHeld ?_
                    try simp only [ν1, ν2, ν3, ν4, ν5, ν6, ν7, ν8]
                    refine wpAnyH_take (i := 6) (v := undef) rfl (by kernel_rfl) (by kernel_rfl) (by kernel_rfl) (fun _ _ _ h => h) (Or.inr ⟨by kernel_rfl, rfl⟩) hHeld ?_
                    try simp only [ν1, ν2, ν3, ν4, ν5, ν6, ν7, ν8]
                    refine wpAnyH_take (i := 7) (v := undef) rfl (by kernel_rfl) (by kernel_rfl) (by kernel_rfl) (fun _ _ _ h => h) (Or.inr ⟨by kernel_rfl, rfl⟩) hHeld ?_
                    try simp only [ν1, ν2, ν3, ν4, ν5, ν6, ν7, ν8]
                    refine wpAnyH_take (i := 8) (v := undef) rfl (by kernel_rfl) (by kernel_rfl) (by kernel_rfl) (fun _ _ _ h => h) (Or.inr ⟨by kernel_rfl, rfl⟩) hHeld ?_
                    try simp only [ν1, ν2, ν3, ν4, ν5, ν6, ν7, ν8]
                    refine wpAnyH_take (i := 9) (v := undef) rfl (by kernel_rfl) (by kernel_rfl) (by kernel_rfl) (fun _ _ _ h => h) (Or.inr ⟨by kernel_rfl, rfl⟩) hHeld ?_
                    try simp only [ν1, ν2, ν3, ν4, ν5, ν6, ν7, ν8]
                    refine wpAnyH_take (i := 10) (v := undef) rfl (by kernel_rfl) (by kernel_rfl) (by kernel_rfl) (fun _ _ _ h => h) (Or.inr ⟨by kernel_rfl, rfl⟩) hHeld ?_
                    try simp only [ν1, ν2, ν3, ν4, ν5, ν6, ν7, ν8]
                    refine wpAnyH_take (i := 11) (v := undef) rfl (by kernel_rfl) (by kernel_rfl) (by kernel_rfl) (fun _ _ _ h => h) (Or.inr ⟨by kernel_rfl, rfl⟩) hHeld ?_
                    try simp only [ν1, ν2, ν3, ν4, ν5, ν6, ν7, ν8]
                    refine wpAnyH_take (i := 12) (v := undef) rfl (by kernel_rfl) (by kernel_rfl) (by kernel_rfl) (fun _ _ _ h => h) (Or.inr ⟨by kernel_rfl, rfl⟩) hHeld ?_
                    try simp only [ν1, ν2, ν3, ν4, ν5, ν6, ν7, ν8]
                    refine wpAnyH_take (i := 13) (v := undef) rfl (by kernel_rfl) (by kernel_rfl) (by kernel_rfl) (fun _ _ _ h => h) (Or.inr ⟨by kernel_rfl, rfl⟩) hHeld ?_
                    try simp only [ν1, ν2, ν3, ν4, ν5, ν6, ν7, ν8]
                    refine wpAnyH_take (i := 14) (v := undef) rfl (by kernel_rfl) (by kernel_rfl) (by kernel_rfl) (fun _ _ _ h => h) (Or.inr ⟨by kernel_rfl, rfl⟩) hHeld ?_
                    try simp only [ν1, ν2, ν3, ν4, ν5, ν6, ν7, ν8]
                    refine wpAnyH_take (i := 15) (v := undef) rfl (by kernel_rfl) (by kernel_rfl) (by kernel_rfl) (fun _ _ _ h => h) (Or.inr ⟨by kernel_rfl, rfl⟩) hHeld ?_
                    try simp only [ν1, ν2, ν3, ν4, ν5, ν6, ν7, ν8]
                    refine wpAnyH_take (i := 16) (v := undef) rfl (by kernel_rfl) (by kernel_rfl) (by kernel_rfl) (fun _ _ _ h => h) (Or.inr ⟨by kernel_rfl, rfl⟩) hHeld ?_
                    try simp only [ν1, ν2, ν3, ν4, ν5, ν6, ν7, ν8]
                    refine wpAnyH_take (i := 17) (v := undef) rfl (by kernel_rfl) (by kernel_rfl) (by kernel_rfl) (fun _ _ _ h => h) (Or.inr ⟨by kernel_rfl, rfl⟩) hHeld ?_
                    try simp only [ν1, ν2, ν3, ν4, ν5, ν6, ν7, ν8]
                    refine wpAnyH_take (i := 18) (v := undef) rfl (by kernel_rfl) (by kernel_rfl) (by kernel_rfl) (fun _ _ _ h => h) (Or.inr ⟨by kernel_rfl, rfl⟩) hHeld ?_
                    try simp only [ν1, ν2, ν3, ν4, ν5, ν6, ν7, ν8]
                    refine wpAnyH_take (i := 19) (v := undef) rfl (by kernel_rfl) (by kernel_rfl) (by kernel_rfl) (fun _ _ _ h => h) (Or.inr ⟨by kernel_rfl, rfl⟩) hHeld ?_
                    try simp only [ν1, ν2, ν3, ν4, ν5, ν6, ν7, ν8]
                    refine wpAnyH_take (i := 20) (v := undef) rfl (by kernel_rfl) (by kernel_rfl) (by kernel_rfl) (fun _ _ _ h => h) (Or.inr ⟨by kernel_rfl, rfl⟩) hHeld ?_
                    try simp only [ν1, ν2, ν3, ν4, ν5, ν6, ν7, ν8]
                    refine wpAnyH_take (i := 21) (v := undef) rfl (by kernel_rfl) (by kernel_rfl) (by kernel_rfl) (fun _ _ _ h => h) (Or.inr ⟨by kernel_rfl, rfl⟩) hHeld ?_
                    try simp only [ν1, ν2, ν3, ν4, ν5, ν6, ν7, ν8]
                    refine wpAnyH_take (i := 22) (v := undef) rfl (by kernel_rfl) (by kernel_rfl) (by kernel_rfl) (fun _ _ _ h => h) (Or.inr ⟨by kernel_rfl, rfl⟩) hHeld ?_
                    try simp only [ν1, ν2, ν3, ν4, ν5, ν6, ν7, ν8]
                    refine wpAnyH_take (i := 23) (v := undef) rfl (by kernel_rfl) (by kernel_rfl) (by kernel_rfl) (fun _ _ _ h => h) (Or.inr ⟨by kernel_rfl, rfl⟩) hHeld ?_
                    try simp only [ν1, ν2, ν3, ν4, ν5, ν6, ν7, ν8]
                    refine wpAnyH_take (i := 24) (v := undef) rfl (by kernel_rfl) (by kernel_rfl) (by kernel_rfl) (fun _ _ _ h => h) (Or.inr ⟨by kernel_rfl, rfl⟩) hHeld ?_
                    try simp only [ν1, ν2, ν3, ν4, ν5, ν6, ν7, ν8]
                    refine wpAnyH_take (i := 25) (v := undef) rfl (by kernel_rfl) (by kernel_rfl) (by kernel_rfl) (fun _ _ _ h => h) (Or.inr ⟨by kernel_rfl, rfl⟩) hHeld ?_
                    try simp only [ν1, ν2, ν3, ν4, ν5, ν6, ν7, ν8]
                    refine wpAnyH_take (i := 26) (v := undef) rfl (by kernel_rfl) (by kernel_rfl) (by kernel_rfl) (fun _ _ _ h => h) (Or.inr ⟨by kernel_rfl, rfl⟩) hHeld ?_
                    try simp only [ν1, ν2, ν3, ν4, ν5, ν6, ν7, ν8]
                    refine wpAnyH_take (i := 27) (v := undef) rfl (by kernel_rfl) (by kernel_rfl) (by kernel_rfl) (fun _ _ _ h => h) (Or.inr ⟨by kernel_rfl, rfl⟩) hHeld ?_
                    try simp only [ν1, ν2, ν3, ν4, ν5, ν6, ν7, ν8]
                    refine wpAnyH_take (i := 28) (v := undef) rfl (by kernel_rfl) (by kernel_rfl) (by kernel_rfl) (fun _ _ _ h => h) (Or.inr ⟨by kernel_rfl, rfl⟩) hHeld ?_
                    try simp only [ν1, ν2, ν3, ν4, ν5, ν6, ν7, ν8]
                    refine wpAnyH_take (i := 29) (v := undef) rfl (by kernel_rfl) (by kernel_rfl) (by kernel_rfl) (fun _ _ _ h => h) (Or.inr ⟨by kernel_rfl, rfl⟩) hHeld ?_
                    try simp only [ν1, ν2, ν3, ν4, ν5, ν6, ν7, ν8]
                    refine wpAnyH_take (i := 30) (v := undef) rfl (by kernel_rfl) (by kernel_rfl) (by kernel_rfl) (fun _ _ _ h => h) (Or.inr ⟨by kernel_rfl, rfl⟩) hHeld ?_
                    try simp only [ν1, ν2, ν3, ν4, ν5, ν6, ν7, ν8]
                    refine wpAnyH_take (i := 31) (v := undef) rfl (by kernel_rfl) (by kernel_rfl) (by kernel_rfl) (fun _ _ _ h => h) (Or.inr ⟨by kernel_rfl, rfl⟩) hHeld ?_
                    try simp only [ν1, ν2, ν3, ν4, ν5, ν6, ν7, ν8]
                    refine wpAnyH_take (i := 32) (v := .bool true) rfl (by kernel_rfl) (by kernel_rfl) (by kernel_rfl) (fun _ _ _ h => h) (Or.inl ⟨by rfl, ?_⟩) hHeld ?_
                    · intro w' hSw; go_simp
                    try simp only [ν1, ν2, ν3, ν4, ν5, ν6, ν7, ν8]
                    refine wpAnyH_take (i := 33) (v := .bool true) rfl (by kernel_rfl) (by kernel_rfl) (by kernel_rfl) (fun _ _ _ h => h) (Or.inl ⟨by rfl, ?_⟩) hHeld ?_
                    · intro w' hSw; go_simp
                    try simp only [ν1, ν2, ν3, ν4, ν5, ν6, ν7, ν8]
                    refine wpAnyH_done (by kernel_rfl) ?_ _
                    have hB3 := hHeld
                    clear hHeld
                    have HBi2 := Lib.hid (HBi.out.trans (hB3.mono HBi.out.size))
                    clear hB3
                    go_wp2_with fail
                    go_roundw
                    case rel => exact ⟨i + 1, true, by omega, by go_num, rfl, Lib.hid (by rw [Hany.out, ← Hnm.out, Hfy.out]), HBi2.out⟩
                    case measure => simp [intOf]; omega
                  | false =>
                    obtain ⟨yw, hyw⟩ : ∃ yw, yw = y.wild := ⟨_, rfl⟩
                    obtain ⟨yb, hyb⟩ : ∃ yb, yb = y.back := ⟨_, rfl⟩
                    rw [← hyw, ← hyb] at hcs2
                    cases yw with
                    | true =>
                      have Hit := Lib.hid hcs2
                      have Hfy : Hid ((false || (!y.wild && y.attr == A.name && !y.back)) = false) := Lib.hid (by rw [← hyw]; rfl)
                      clear hcs2 hyw
                      rw [hyb] at Hit
                      clear hyb
                      go_upto_region 18 with fail
                      refine wp_region_held_drew (S := fun w' => Below wi.heap.size wi w') (by kernel_rfl) (Below.refl _ _).drew (fun hHeld => ?_)
                      refine wpAnyH_take (i := 0) (v := .bool false) rfl (by kernel_rfl) (by kernel_rfl) (by kernel_rfl) (fun _ _ _ h => h) (Or.inl ⟨by rfl, ?_⟩) hHeld ?_
                      · intro w' hSw; go_simp
                      try simp only [ν1, ν2, ν3, ν4, ν5, ν6, ν7, ν8]
                      refine wpAnyH_take (i := 1) (v := .bool false) rfl (by kernel_rfl) (by kernel_rfl) (by kernel_rfl) (fun _ _ _ h => h) (Or.inl ⟨by rfl, ?_⟩) hHeld ?_
                      · intro w' hSw; go_simp
                      try simp only [ν1, ν2, ν3, ν4, ν5, ν6, ν7, ν8]
                      refine wpAnyH_take (i := 2) (v := .slice (some ⟨b, off, none⟩) np cp) rfl (by kernel_rfl) (by kernel_rfl) (by kernel_rfl) (fun _ _ _ h => h) (Or.inl ⟨by rfl, ?_⟩) hHeld ?_
                      · intro w' hSw; go_simp
                      try simp only [ν1, ν2, ν3, ν4, ν5, ν6, ν7, ν8]
                      refine wpAnyH_take (i := 3) (v := .int .i64 ((i : Int))) rfl (by kernel_rfl) (by kernel_rfl) (by kernel_rfl) (fun _ _ _ h => h) (Or.inl ⟨by rfl, ?_⟩) hHeld ?_
                      · intro w' hSw; go_simp
                      try simp only [ν1, ν2, ν3, ν4, ν5, ν6, ν7, ν8]
                      refine wpAnyH_take (i := 4) (v := .pointer (some ⟨b, off + i * 11, none⟩)) rfl (by kernel_rfl) (by kernel_rfl) (by kernel_rfl) (fun _ _ _ h => h) (Or.inl ⟨by rfl, ?_⟩) hHeld ?_
                      · intro w' hSw; go_simp
                      try simp only [ν1, ν2, ν3, ν4, ν5, ν6, ν7, ν8]
                      refine wpAnyH_take (i := 5) (v := .pointer (some ⟨b, off + i * 11, none⟩)) rfl (by kernel_rfl) (by kernel_rfl) (by kernel_rfl) (fun _ _ _ h => h) (Or.inl ⟨by rfl, ?_⟩) hHeld ?_
                      · intro w' hSw; go_simp
                      try simp only [ν1, ν2, ν3, ν4, ν5, ν6, ν7, ν8]
                      refine wpAnyH_take (i := 6) (v := .bool true) rfl (by kernel_rfl) (by kernel_rfl) (by kernel_rfl) (fun _ _ _ h => h) (Or.inl ⟨by rfl, ?_⟩) hHeld ?_
                      · intro w' hSw; obtain ⟨k0, k1, k2, k3, k4, k5, k6, k7, k8, k9, k10⟩ := item_cells (Hit.out.agree (.below hSw (Nat.le_refl _)) (Nat.zero_le _) Hbl.out); go_simp
                      try simp only [ν1, ν2, ν3, ν4, ν5, ν6, ν7, ν8]
                      refine wpAnyH_take (i := 7) (v := .bool false) rfl (by kernel_rfl) (by kernel_rfl) (by kernel_rfl) (fun _ _ _ h => h) (Or.inl ⟨by rfl, ?_⟩) hHeld ?_
                      · intro w' hSw; go_simp
                      try simp only [ν1, ν2, ν3, ν4, ν5, ν6, ν7, ν8]
                      refine wpAnyH_take (i := 8) (v := .bool false) rfl (by kernel_rfl) (by kernel_rfl) (by kernel_rfl) (fun _ _ _ h => h) (Or.inl ⟨by rfl, ?_⟩) hHeld ?_
                      · intro w' hSw; go_simp
                      try simp only [ν1, ν2, ν3, ν4, ν5, ν6, ν7, ν8]
                      refine wpAnyH_take (i := 9) (v := undef) rfl (by kernel_rfl) (by kernel_rfl) (by kernel_rfl) (fun _ _ _ h => h) (Or.inr ⟨by kernel_rfl, rfl⟩) hHeld ?_
                      try simp only [ν1, ν2, ν3, ν4, ν5, ν6, ν7, ν8]
                      refine wpAnyH_take (i := 10) (v := undef) rfl (by kernel_rfl) (by kernel_rfl) (by kernel_rfl) (fun _ _ _ h => h) (Or.inr ⟨by kernel_rfl, rfl⟩) hHeld ?_
                      try simp only [ν1, ν2, ν3, ν4, ν5, ν6, ν7, ν8]
                      refine wpAnyH_take (i := 11) (v := undef) rfl (by kernel_rfl) (by kernel_rfl) (by kernel_rfl) (fun _ _ _ h => h) (Or.inr ⟨by kernel_rfl, rfl⟩) hHeld ?_
                      try simp only [ν1, ν2, ν3, ν4, ν5, ν6, ν7, ν8]
                      refine wpAnyH_take (i := 12) (v := undef) rfl (by kernel_rfl) (by kernel_rfl) (by kernel_rfl) (fun _ _ _ h => h) (Or.inr ⟨by kernel_rfl, rfl⟩) hHeld ?_
                      try simp only [ν1, ν2, ν3, ν4, ν5, ν6, ν7, ν8]
                      refine wpAnyH_take (i := 13) (v := undef) rfl (by kernel_rfl) (by kernel_rfl) (by kernel_rfl) (fun _ _ _ h => h) (Or.inr ⟨by kernel_rfl, rfl⟩) hHeld ?_
                      try simp only [ν1, ν2, ν3, ν4, ν5, ν6, ν7, ν8]
                      refine wpAnyH_take (i := 14) (v := undef) rfl (by kernel_rfl) (by kernel_rfl) (by kernel_rfl) (fun _ _ _ h => h) (Or.inr ⟨by kernel_rfl, rfl⟩) hHeld ?_
                      try simp only [ν1, ν2, ν3, ν4, ν5, ν6, ν7, ν8]
                      refine wpAnyH_take (i := 15) (v := .bool false) rfl (by kernel_rfl) (by kernel_rfl) (by kernel_rfl) (fun _ _ _ h => h) (Or.inl ⟨by rfl, ?_⟩) hHeld ?_
                      · intro w' hSw; go_simp
                      try simp only [ν1, ν2, ν3, ν4, ν5, ν6, ν7, ν8]
                      refine wpAnyH_take (i := 16) (v := .bool false) rfl (by kernel_rfl) (by kernel_rfl) (by kernel_rfl) (fun _ _ _ h => h) (Or.inl ⟨by rfl, ?_⟩) hHeld ?_
                      · intro w' hSw; go_simp
                      try simp only [ν1, ν2, ν3, ν4, ν5, ν6, ν7, ν8]
                      refine wpAnyH_take (i := 17) (v := undef) rfl (by kernel_rfl) (by kernel_rfl) (by kernel_rfl) (fun _ _ _ h => h) (Or.inr ⟨by kernel_rfl, rfl⟩) hHeld ?_
                      try simp only [ν1, ν2, ν3, ν4, ν5, ν6, ν7, ν8]
                      refine wpAnyH_take (i := 18) (v := undef) rfl (by kernel_rfl) (by kernel_rfl) (by kernel_rfl) (fun _ _ _ h => h) (Or.inr ⟨by kernel_rfl, rfl⟩) hHeld ?_
                      try simp only [ν1, ν2, ν3, ν4, ν5, ν6, ν7, ν8]
                      refine wpAnyH_take (i := 19) (v := undef) rfl (by kernel_rfl) (by kernel_rfl) (by kernel_rfl) (fun _ _ _ h => h) (Or.inr ⟨by kernel_rfl, rfl⟩) hHeld ?_
                      try simp only [ν1, ν2, ν3, ν4, ν5, ν6, ν7, ν8]
                      refine wpAnyH_take (i := 20) (v := undef) rfl (by kernel_rfl) (by kernel_rfl) (by kernel_rfl) (fun _ _ _ h => h) (Or.inr ⟨by kernel_rfl, rfl⟩) hHeld ?_
                      try simp only [ν1, ν2, ν3, ν4, ν5, ν6, ν7, ν8]
                      refine wpAnyH_take (i := 21) (v := undef) rfl (by kernel_rfl) (by kernel_rfl) (by kernel_rfl) (fun _ _ _ h => h) (Or.inr ⟨by kernel_rfl, rfl⟩) hHeld ?_
                      try simp only [ν1, ν2, ν3, ν4, ν5, ν6, ν7, ν8]
                      refine wpAnyH_take (i := 22) (v := undef) rfl (by kernel_rfl) (by kernel_rfl) (by kernel_rfl) (fun _ _ _ h => h) (Or.inr ⟨by kernel_rfl, rfl⟩) hHeld ?_
                      try simp only [ν1, ν2, ν3, ν4, ν5, ν6, ν7, ν8]
                      refine wpAnyH_take (i := 23) (v := undef) rfl (by kernel_rfl) (by kernel_rfl) (by kernel_rfl) (fun _ _ _ h => h) (Or.inr ⟨by kernel_rfl, rfl⟩) hHeld ?_
                      try simp only [ν1, ν2, ν3, ν4, ν5, ν6, ν7, ν8]
                      refine wpAnyH_take (i := 24) (v := undef) rfl (by kernel_rfl) (by kernel_rfl) (by kernel_rfl) (fun _ _ _ h => h) (Or.inr ⟨by kernel_rfl, rfl⟩) hHeld ?_
                      try simp only [ν1, ν2, ν3, ν4, ν5, ν6, ν7, ν8]
                      refine wpAnyH_take (i := 25) (v := undef) rfl (by kernel_rfl) (by kernel_rfl) (by kernel_rfl) (fun _ _ _ h => h) (Or.inr ⟨by kernel_rfl, rfl⟩) hHeld ?_
                      try simp only [ν1, ν2, ν3, ν4, ν5, ν6, ν7, ν8]
                      refine wpAnyH_take (i := 26) (v := undef) rfl (by kernel_rfl) (by kernel_rfl) (by kernel_rfl) (fun _ _ _ h => h) (Or.inr ⟨by kernel_rfl, rfl⟩) hHeld ?_
                      try simp only [ν1, ν2, ν3, ν4, ν5, ν6, ν7, ν8]
                      refine wpAnyH_take (i := 27) (v := undef) rfl (by kernel_rfl) (by kernel_rfl) (by kernel_rfl) (fun _ _ _ h => h) (Or.inr ⟨by kernel_rfl, rfl⟩) hHeld ?_
                      try simp only [ν1, ν2, ν3, ν4, ν5, ν6, ν7, ν8]
                      refine wpAnyH_take (i := 28) (v := undef) rfl (by kernel_rfl) (by kernel_rfl) (by kernel_rfl) (fun _ _ _ h => h) (Or.inr ⟨by kernel_rfl, rfl⟩) hHeld ?_
                      try simp only [ν1, ν2, ν3, ν4, ν5, ν6, ν7, ν8]
                      refine wpAnyH_take (i := 29) (v := undef) rfl (by kernel_rfl) (by kernel_rfl) (by kernel_rfl) (fun _ _ _ h => h) (Or.inr ⟨by kernel_rfl, rfl⟩) hHeld ?_
                      try simp only [ν1, ν2, ν3, ν4, ν5, ν6, ν7, ν8]
                      refine wpAnyH_take (i := 30) (v := undef) rfl (by kernel_rfl) (by kernel_rfl) (by kernel_rfl) (fun _ _ _ h => h) (Or.inr ⟨by kernel_rfl, rfl⟩) hHeld ?_
                      try simp only [ν1, ν2, ν3, ν4, ν5, ν6, ν7, ν8]
                      refine wpAnyH_take (i := 31) (v := .bool false) rfl (by kernel_rfl) (by kernel_rfl) (by kernel_rfl) (fun _ _ _ h => h) (Or.inl ⟨by rfl, ?_⟩) hHeld ?_
                      · intro w' hSw; go_simp
                      try simp only [ν1, ν2, ν3, ν4, ν5, ν6, ν7, ν8]
                      refine wpAnyH_take (i := 32) (v := .bool false) rfl (by kernel_rfl) (by kernel_rfl) (by kernel_rfl) (fun _ _ _ h => h) (Or.inl ⟨by rfl, ?_⟩) hHeld ?_
                      · intro w' hSw; go_simp
                      try simp only [ν1, ν2, ν3, ν4, ν5, ν6, ν7, ν8]
                      refine wpAnyH_take (i := 33) (v := .bool false) rfl (by kernel_rfl) (by kernel_rfl) (by kernel_rfl) (fun _ _ _ h => h) (Or.inl ⟨by rfl, ?_⟩) hHeld ?_
                      · intro w' hSw; go_simp
                      try simp only [ν1, ν2, ν3, ν4, ν5, ν6, ν7, ν8]
                      refine wpAnyH_done (by kernel_rfl) ?_ _
                      have hB3 := hHeld
                      clear hHeld
                      have HBi2 := Lib.hid (HBi.out.trans (hB3.mono HBi.out.size))
                      clear hB3
                      go_wp2_with fail
                      go_roundw
                      case rel => exact ⟨i + 1, false, by omega, by go_num, rfl, Lib.hid (by rw [Hany.out, ← Hnm.out, Hfy.out]), HBi2.out⟩
                      case measure => simp [intOf]; omega
                    | false =>
                      cases yb with
                      | true =>
                        have Hit := Lib.hid hcs2
                        have Hfy : Hid ((false || (!y.wild && y.attr == A.name && !y.back)) = false) := Lib.hid (by rw [← hyb]; simp)
                        clear hcs2 hyw hyb
                        go_upto_region 18 with fail
                        refine wp_region_held_drew (S := fun w' => Below wi.heap.size wi w') (by kernel_rfl) (Below.refl _ _).drew (fun hHeld => ?_)
                        refine wpAnyH_take (i := 0) (v := .bool false) rfl (by kernel_rfl) (by kernel_rfl) (by kernel_rfl) (fun _ _ _ h => h) (Or.inl ⟨by rfl, ?_⟩) hHeld ?_
                        · intro w' hSw; go_simp
                        try simp only [ν1, ν2, ν3, ν4, ν5, ν6, ν7, ν8]
                        refine wpAnyH_take (i := 1) (v := .bool false) rfl (by kernel_rfl) (by kernel_rfl) (by kernel_rfl) (fun _ _ _ h => h) (Or.inl ⟨by rfl, ?_⟩) hHeld ?_
                        · intro w' hSw; go_simp
                        try simp only [ν1, ν2, ν3, ν4, ν5, ν6, ν7, ν8]
                        refine wpAnyH_take (i := 2) (v := .slice (some ⟨b, off, none⟩) np cp) rfl (by kernel_rfl) (by kernel_rfl) (by kernel_rfl) (fun _ _ _ h => h) (Or.inl ⟨by rfl, ?_⟩) hHeld ?_
                        · intro w' hSw; go_simp
                        try simp only [ν1, ν2, ν3, ν4, ν5, ν6, ν7, ν8]
                        refine wpAnyH_take (i := 3) (v := .int .i64 ((i : Int))) rfl (by kernel_rfl) (by kernel_rfl) (by kernel_rfl) (fun _ _ _ h => h) (Or.inl ⟨by rfl, ?_⟩) hHeld ?_
                        · intro w' hSw; go_simp
                        try simp only [ν1, ν2, ν3, ν4, ν5, ν6, ν7, ν8]
                        refine wpAnyH_take (i := 4) (v := .pointer (some ⟨b, off + i * 11, none⟩)) rfl (by kernel_rfl) (by kernel_rfl) (by kernel_rfl) (fun _ _ _ h => h) (Or.inl ⟨by rfl, ?_⟩) hHeld ?_
                        · intro w' hSw; go_simp
                        try simp only [ν1, ν2, ν3, ν4, ν5, ν6, ν7, ν8]
                        refine wpAnyH_take (i := 5) (v := .pointer (some ⟨b, off + i * 11, none⟩)) rfl (by kernel_rfl) (by kernel_rfl) (by kernel_rfl) (fun _ _ _ h => h) (Or.inl ⟨by rfl, ?_⟩) hHeld ?_
                        · intro w' hSw; go_simp
                        try simp only [ν1, ν2, ν3, ν4, ν5, ν6, ν7, ν8]
                        refine wpAnyH_take (i := 6) (v := .bool false) rfl (by kernel_rfl) (by kernel_rfl) (by kernel_rfl) (fun _ _ _ h => h) (Or.inl ⟨by rfl, ?_⟩) hHeld ?_
                        · intro w' hSw; obtain ⟨k0, k1, k2, k3, k4, k5, k6, k7, k8, k9, k10⟩ := item_cells (Hit.out.agree (.below hSw (Nat.le_refl _)) (Nat.zero_le _) Hbl.out); go_simp
                        try simp only [ν1, ν2, ν3, ν4, ν5, ν6, ν7, ν8]
                        refine wpAnyH_take (i := 7) (v := .bool true) rfl (by kernel_rfl) (by kernel_rfl) (by kernel_rfl) (fun _ _ _ h => h) (Or.inl ⟨by rfl, ?_⟩) hHeld ?_
                        · intro w' hSw; go_simp
                        try simp only [ν1, ν2, ν3, ν4, ν5, ν6, ν7, ν8]
                        refine wpAnyH_take (i := 8) (v := .bool true) rfl (by kernel_rfl) (by kernel_rfl) (by kernel_rfl) (fun _ _ _ h => h) (Or.inl ⟨by rfl, ?_⟩) hHeld ?_
                        · intro w' hSw; go_simp
                        try simp only [ν1, ν2, ν3, ν4, ν5, ν6, ν7, ν8]
                        refine wpAnyH_take (i := 9) (v := .slice (some ⟨b, off, none⟩) np cp) rfl (by kernel_rfl) (by kernel_rfl) (by kernel_rfl) (fun _ _ _ h => h) (Or.inl ⟨by rfl, ?_⟩) hHeld ?_
                        · intro w' hSw; go_simp
                        try simp only [ν1, ν2, ν3, ν4, ν5, ν6, ν7, ν8]
                        refine wpAnyH_take (i := 10) (v := .int .i64 ((i : Int))) rfl (by kernel_rfl) (by kernel_rfl) (by kernel_rfl) (fun _ _ _ h => h) (Or.inl ⟨by rfl, ?_⟩) hHeld ?_
                        · intro w' hSw; go_simp
                        try simp only [ν1, ν2, ν3, ν4, ν5, ν6, ν7, ν8]
                        refine wpAnyH_take (i := 11) (v := .pointer (some ⟨b, off + i * 11, none⟩)) rfl (by kernel_rfl) (by kernel_rfl) (by kernel_rfl) (fun _ _ _ h => h) (Or.inl ⟨by rfl, ?_⟩) hHeld ?_
                        · intro w' hSw; go_simp
                        try simp only [ν1, ν2, ν3, ν4, ν5, ν6, ν7, ν8]
                        refine wpAnyH_take (i := 12) (v := .pointer (some ⟨b, off + i * 11 + 2, none⟩)) rfl (by kernel_rfl) (by kernel_rfl) (by kernel_rfl) (fun _ _ _ h => h) (Or.inl ⟨by rfl, ?_⟩) hHeld ?_
                        · intro w' hSw; go_simp
                        try simp only [ν1, ν2, ν3, ν4, ν5, ν6, ν7, ν8]
                        refine wpAnyH_take (i := 13) (v := .bool true) rfl (by kernel_rfl) (by kernel_rfl) (by kernel_rfl) (fun _ _ _ h => h) (Or.inl ⟨by rfl, ?_⟩) hHeld ?_
                        · intro w' hSw; obtain ⟨k0, k1, k2, k3, k4, k5, k6, k7, k8, k9, k10⟩ := item_cells (Hit.out.agree (.below hSw (Nat.le_refl _)) (Nat.zero_le _) Hbl.out); go_simp
                        try simp only [ν1, ν2, ν3, ν4, ν5, ν6, ν7, ν8]
                        refine wpAnyH_take (i := 14) (v := .bool false) rfl (by kernel_rfl) (by kernel_rfl) (by kernel_rfl) (fun _ _ _ h => h) (Or.inl ⟨by rfl, ?_⟩) hHeld ?_
                        · intro w' hSw; go_simp
                        try simp only [ν1, ν2, ν3, ν4, ν5, ν6, ν7, ν8]
                        refine wpAnyH_take (i := 15) (v := .bool false) rfl (by kernel_rfl) (by kernel_rfl) (by kernel_rfl) (fun _ _ _ h => h) (Or.inl ⟨by rfl, ?_⟩) hHeld ?_
                        · intro w' hSw; go_simp
                        try simp only [ν1, ν2, ν3, ν4, ν5, ν6, ν7, ν8]
                        refine wpAnyH_take (i := 16) (v := .bool false) rfl (by kernel_rfl) (by kernel_rfl) (by kernel_rfl) (fun _ _ _ h => h) (Or.inl ⟨by rfl, ?_⟩) hHeld ?_
                        · intro w' hSw; go_simp
                        try simp only [ν1, ν2, ν3, ν4, ν5, ν6, ν7, ν8]
                        refine wpAnyH_take (i := 17) (v := undef) rfl (by kernel_rfl) (by kernel_rfl) (by kernel_rfl) (fun _ _ _ h => h) (Or.inr ⟨by kernel_rfl, rfl⟩) hHeld ?_
                        try simp only [ν1, ν2, ν3, ν4, ν5, ν6, ν7, ν8]
                        refine wpAnyH_take (i := 18) (v := undef) rfl (by kernel_rfl) (by kernel_rfl) (by kernel_rfl) (fun _ _ _ h => h) (Or.inr ⟨by kernel_rfl, rfl⟩) hHeld ?_
                        try simp only [ν1, ν2, ν3, ν4, ν5, ν6, ν7, ν8]
                        refine wpAnyH_take (i := 19) (v := undef) rfl (by kernel_rfl) (by kernel_rfl) (by kernel_rfl) (fun _ _ _ h => h) (Or.inr ⟨by kernel_rfl, rfl⟩) hHeld ?_
                        try simp only [ν1, ν2, ν3, ν4, ν5, ν6, ν7, ν8]
                        refine wpAnyH_take (i := 20) (v := undef) rfl (by kernel_rfl) (by kernel_rfl) (by kernel_rfl) (fun _ _ _ h => h) (Or.inr ⟨by kernel_rfl, rfl⟩) hHeld ?_
                        try simp only [ν1, ν2, ν3, ν4, ν5, ν6, ν7, ν8]
                        refine wpAnyH_take (i := 21) (v := undef) rfl (by kernel_rfl) (by kernel_rfl) (by kernel_rfl) (fun _ _ _ h => h) (Or.inr ⟨by kernel_rfl, rfl⟩) hHeld ?_
                        try simp only [ν1, ν2, ν3, ν4, ν5, ν6, ν7, ν8]
                        refine wpAnyH_take (i := 22) (v := undef) rfl (by kernel_rfl) (by kernel_rfl) (by kernel_rfl) (fun _ _ _ h => h) (Or.inr ⟨by kernel_rfl, rfl⟩) hHeld ?_
                        try simp only [ν1, ν2, ν3, ν4, ν5, ν6, ν7, ν8]
                        refine wpAnyH_take (i := 23) (v := undef) rfl (by kernel_rfl) (by kernel_rfl) (by kernel_rfl) (fun _ _ _ h => h) (Or.inr ⟨by kernel_rfl, rfl⟩) hHeld ?_
                        try simp only [ν1, ν2, ν3, ν4, ν5, ν6, ν7, ν8]
                        refine wpAnyH_take (i := 24) (v := undef) rfl (by kernel_rfl) (by kernel_rfl) (by kernel_rfl) (fun _ _ _ h => h) (Or.inr ⟨by kernel_rfl, rfl⟩) hHeld ?_
                        try simp only [ν1, ν2, ν3, ν4, ν5, ν6, ν7, ν8]
                        refine wpAnyH_take (i := 25) (v := undef) rfl (by kernel_rfl) (by kernel_rfl) (by kernel_rfl) (fun _ _ _ h => h) (Or.inr ⟨by kernel_rfl, rfl⟩) hHeld ?_
                        try simp only [ν1, ν2, ν3, ν4, ν5, ν6, ν7, ν8]
                        refine wpAnyH_take (i := 26) (v := undef) rfl (by kernel_rfl) (by kernel_rfl) (by kernel_rfl) (fun _ _ _ h => h) (Or.inr ⟨by kernel_rfl, rfl⟩) hHeld ?_
                        try simp only [ν1, ν2, ν3, ν4, ν5, ν6, ν7, ν8]
                        refine wpAnyH_take (i := 27) (v := undef) rfl (by kernel_rfl) (by kernel_rfl) (by kernel_rfl) (fun _ _ _ h => h) (Or.inr ⟨by kernel_rfl, rfl⟩) hHeld ?_
                        try simp only [ν1, ν2, ν3, ν4, ν5, ν6, ν7, ν8]
                        refine wpAnyH_take (i := 28) (v := undef) rfl (by kernel_rfl) (by kernel_rfl) (by kernel_rfl) (fun _ _ _ h => h) (Or.inr ⟨by kernel_rfl, rfl⟩) hHeld ?_
                        try simp only [ν1, ν2, ν3, ν4, ν5, ν6, ν7, ν8]
                        refine wpAnyH_take (i := 29) (v := undef) rfl (by kernel_rfl) (by kernel_rfl) (by kernel_rfl) (fun _ _ _ h => h) (Or.inr ⟨by kernel_rfl, rfl⟩) hHeld ?_
                        try simp only [ν1, ν2, ν3, ν4, ν5, ν6, ν7, ν8]
                        refine wpAnyH_take (i := 30) (v := undef) rfl (by kernel_rfl) (by kernel_rfl) (by kernel_rfl) (fun _ _ _ h => h) (Or.inr ⟨by kernel_rfl, rfl⟩) hHeld ?_
                        try simp only [ν1, ν2, ν3, ν4, ν5, ν6, ν7, ν8]
                        refine wpAnyH_take (i := 31) (v := .bool false) rfl (by kernel_rfl) (by kernel_rfl) (by kernel_rfl) (fun _ _ _ h => h) (Or.inl ⟨by rfl, ?_⟩) hHeld ?_
                        · intro w' hSw; go_simp
                        try simp only [ν1, ν2, ν3, ν4, ν5, ν6, ν7, ν8]
                        refine wpAnyH_take (i := 32) (v := .bool false) rfl (by kernel_rfl) (by kernel_rfl) (by kernel_rfl) (fun _ _ _ h => h) (Or.inl ⟨by rfl, ?_⟩) hHeld ?_
                        · intro w' hSw; go_simp
                        try simp only [ν1, ν2, ν3, ν4, ν5, ν6, ν7, ν8]
                        refine wpAnyH_take (i := 33) (v := .bool false) rfl (by kernel_rfl) (by kernel_rfl) (by kernel_rfl) (fun _ _ _ h => h) (Or.inl ⟨by rfl, ?_⟩) hHeld ?_
                        · intro w' hSw; go_simp
                        try simp only [ν1, ν2, ν3, ν4, ν5, ν6, ν7, ν8]
                        refine wpAnyH_done (by kernel_rfl) ?_ _
                        have hB3 := hHeld
                        clear hHeld
                        have HBi2 := Lib.hid (HBi.out.trans (hB3.mono HBi.out.size))
                        clear hB3
                        go_wp2_with fail
                        go_roundw
                        case rel => exact ⟨i + 1, false, by omega, by go_num, rfl, Lib.hid (by rw [Hany.out, ← Hnm.out, Hfy.out]), HBi2.out⟩
                        case measure => simp [intOf]; omega
                      | false =>
                        by_cases hna2 : y.attr = A.name
                        · have Hit := Lib.hid hcs2
                          have heq : (y.attr == A.name) = true := by simpa using hna2
                          have Hfy : Hid ((false || (!y.wild && y.attr == A.name && !y.back)) = true) := Lib.hid (by rw [← hyw, ← hyb, heq]; rfl)
                          clear hcs2 hyw hyb hna2
                          go_upto_region 18 with fail
                          refine wp_region_held_drew (S := fun w' => Below wi.heap.size wi w') (by kernel_rfl) (Below.refl _ _).drew (fun hHeld => ?_)
                          refine wpAnyH_take (i := 0) (v := .bool false) rfl (by kernel_rfl) (by kernel_rfl) (by kernel_rfl) (fun _ _ _ h => h) (Or.inl ⟨by rfl, ?_⟩) hHeld ?_
                          · intro w' hSw; go_simp
                          try simp only [ν1, ν2, ν3, ν4, ν5, ν6, ν7, ν8]
                          refine wpAnyH_take (i := 1) (v := .bool false) rfl (by kernel_rfl) (by kernel_rfl) (by kernel_rfl) (fun _ _ _ h => h) (Or.inl ⟨by rfl, ?_⟩) hHeld ?_
                          · intro w' hSw; go_simp
                          try simp only [ν1, ν2, ν3, ν4, ν5, ν6, ν7, ν8]
                          refine wpAnyH_take (i := 2) (v := .slice (some ⟨b, off, none⟩) np cp) rfl (by kernel_rfl) (by kernel_rfl) (by kernel_rfl) (fun _ _ _ h => h) (Or.inl ⟨by rfl, ?_⟩) hHeld ?_
                          · intro w' hSw; go_simp
                          try simp only [ν1, ν2, ν3, ν4, ν5, ν6, ν7, ν8]
                          refine wpAnyH_take (i := 3) (v := .int .i64 ((i : Int))) rfl (by kernel_rfl) (by kernel_rfl) (by kernel_rfl) (fun _ _ _ h => h) (Or.inl ⟨by rfl, ?_⟩) hHeld ?_
                          · intro w' hSw; go_simp
                          try simp only [ν1, ν2, ν3, ν4, ν5, ν6, ν7, ν8]
                          refine wpAnyH_take (i := 4) (v := .pointer (some ⟨b, off + i * 11, none⟩)) rfl (by kernel_rfl) (by kernel_rfl) (by kernel_rfl) (fun _ _ _ h => h) (Or.inl ⟨by rfl, ?_⟩) hHeld ?_
                          · intro w' hSw; go_simp
                          try simp only [ν1, ν2, ν3, ν4, ν5, ν6, ν7, ν8]
                          refine wpAnyH_take (i := 5) (v := .pointer (some ⟨b, off + i * 11, none⟩)) rfl (by kernel_rfl) (by kernel_rfl) (by kernel_rfl) (fun _ _ _ h => h) (Or.inl ⟨by rfl, ?_⟩) hHeld ?_
                          · intro w' hSw; go_simp
                          try simp only [ν1, ν2, ν3, ν4, ν5, ν6, ν7, ν8]
                          refine wpAnyH_take (i := 6) (v := .bool false) rfl (by kernel_rfl) (by kernel_rfl) (by kernel_rfl) (fun _ _ _ h => h) (Or.inl ⟨by rfl, ?_⟩) hHeld ?_
                          · intro w' hSw; obtain ⟨k0, k1, k2, k3, k4, k5, k6, k7, k8, k9, k10⟩ := item_cells (Hit.out.agree (.below hSw (Nat.le_refl _)) (Nat.zero_le _) Hbl.out); go_simp
                          try simp only [ν1, ν2, ν3, ν4, ν5, ν6, ν7, ν8]
                          refine wpAnyH_take (i := 7) (v := .bool true) rfl (by kernel_rfl) (by kernel_rfl) (by kernel_rfl) (fun _ _ _ h => h) (Or.inl ⟨by rfl, ?_⟩) hHeld ?_
                          · intro w' hSw; go_simp
                          try simp only [ν1, ν2, ν3, ν4, ν5, ν6, ν7, ν8]
                          refine wpAnyH_take (i := 8) (v := .bool true) rfl (by kernel_rfl) (by kernel_rfl) (by kernel_rfl) (fun _ _ _ h => h) (Or.inl ⟨by rfl, ?_⟩) hHeld ?_
                          · intro w' hSw; go_simp
                          try simp only [ν1, ν2, ν3, ν4, ν5, ν6, ν7, ν8]
                          refine wpAnyH_take (i := 9) (v := .slice (some ⟨b, off, none⟩) np cp) rfl (by kernel_rfl) (by kernel_rfl) (by kernel_rfl) (fun _ _ _ h => h) (Or.inl ⟨by rfl, ?_⟩) hHeld ?_
                          · intro w' hSw; go_simp
                          try simp only [ν1, ν2, ν3, ν4, ν5, ν6, ν7, ν8]
                          refine wpAnyH_take (i := 10) (v := .int .i64 ((i : Int))) rfl (by kernel_rfl) (by kernel_rfl) (by kernel_rfl) (fun _ _ _ h => h) (Or.inl ⟨by rfl, ?_⟩) hHeld ?_
                          · intro w' hSw; go_simp
                          try simp only [ν1, ν2, ν3, ν4, ν5, ν6, ν7, ν8]
                          refine wpAnyH_take (i := 11) (v := .pointer (some ⟨b, off + i * 11, none⟩)) rfl (by kernel_rfl) (by kernel_rfl) (by kernel_rfl) (fun _ _ _ h => h) (Or.inl ⟨by rfl, ?_⟩) hHeld ?_
                          · intro w' hSw; go_simp
                          try simp only [ν1, ν2, ν3, ν4, ν5, ν6, ν7, ν8]
                          refine wpAnyH_take (i := 12) (v := .pointer (some ⟨b, off + i * 11 + 2, none⟩)) rfl (by kernel_rfl) (by kernel_rfl) (by kernel_rfl) (fun _ _ _ h => h) (Or.inl ⟨by rfl, ?_⟩) hHeld ?_
                          · intro w' hSw; go_simp
                          try simp only [ν1, ν2, ν3, ν4, ν5, ν6, ν7, ν8]
                          refine wpAnyH_take (i := 13) (v := .bool false) rfl (by kernel_rfl) (by kernel_rfl) (by kernel_rfl) (fun _ _ _ h => h) (Or.inl ⟨by rfl, ?_⟩) hHeld ?_
                          · intro w' hSw; obtain ⟨k0, k1, k2, k3, k4, k5, k6, k7, k8, k9, k10⟩ := item_cells (Hit.out.agree (.below hSw (Nat.le_refl _)) (Nat.zero_le _) Hbl.out); go_simp
                          try simp only [ν1, ν2, ν3, ν4, ν5, ν6, ν7, ν8]
                          refine wpAnyH_take (i := 14) (v := .bool true) rfl (by kernel_rfl) (by kernel_rfl) (by kernel_rfl) (fun _ _ _ h => h) (Or.inl ⟨by rfl, ?_⟩) hHeld ?_
                          · intro w' hSw; go_simp
                          try simp only [ν1, ν2, ν3, ν4, ν5, ν6, ν7, ν8]
                          refine wpAnyH_take (i := 15) (v := .bool true) rfl (by kernel_rfl) (by kernel_rfl) (by kernel_rfl) (fun _ _ _ h => h) (Or.inl ⟨by rfl, ?_⟩) hHeld ?_
                          · intro w' hSw; go_simp
                          try simp only [ν1, ν2, ν3, ν4, ν5, ν6, ν7, ν8]
                          refine wpAnyH_take (i := 16) (v := .bool true) rfl (by kernel_rfl) (by kernel_rfl) (by kernel_rfl) (fun _ _ _ h => h) (Or.inl ⟨by rfl, ?_⟩) hHeld ?_
                          · intro w' hSw; go_simp
                          try simp only [ν1, ν2, ν3, ν4, ν5, ν6, ν7, ν8]
                          refine wpAnyH_take (i := 17) (v := .slice (some ⟨b, off, none⟩) np cp) rfl (by kernel_rfl) (by kernel_rfl) (by kernel_rfl) (fun _ _ _ h => h) (Or.inl ⟨by rfl, ?_⟩) hHeld ?_
                          · intro w' hSw; go_simp
                          try simp only [ν1, ν2, ν3, ν4, ν5, ν6, ν7, ν8]
                          refine wpAnyH_take (i := 18) (v := .int .i64 ((i : Int))) rfl (by kernel_rfl) (by kernel_rfl) (by kernel_rfl) (fun _ _ _ h => h) (Or.inl ⟨by rfl, ?_⟩) hHeld ?_
                          · intro w' hSw; go_simp
                          try simp only [ν1, ν2, ν3, ν4, ν5, ν6, ν7, ν8]
                          refine wpAnyH_take (i := 19) (v := .pointer (some ⟨b, off + i * 11, none⟩)) rfl (by kernel_rfl) (by kernel_rfl) (by kernel_rfl) (fun _ _ _ h => h) (Or.inl ⟨by rfl, ?_⟩) hHeld ?_
                          · intro w' hSw; go_simp
                          try simp only [ν1, ν2, ν3, ν4, ν5, ν6, ν7, ν8]
                          refine wpAnyH_take (i := 20) (v := .pointer (some ⟨b, off + i * 11 + 1, none⟩)) rfl (by kernel_rfl) (by kernel_rfl) (by kernel_rfl) (fun _ _ _ h => h) (Or.inl ⟨by rfl, ?_⟩) hHeld ?_
                          · intro w' hSw; go_simp
                          try simp only [ν1, ν2, ν3, ν4, ν5, ν6, ν7, ν8]
                          refine wpAnyH_take (i := 21) (v := .string ⟨y.attr.toArray⟩) rfl (by kernel_rfl) (by kernel_rfl) (by kernel_rfl) (fun _ _ _ h => h) (Or.inl ⟨by rfl, ?_⟩) hHeld ?_
                          · intro w' hSw; obtain ⟨k0, k1, k2, k3, k4, k5, k6, k7, k8, k9, k10⟩ := item_cells (Hit.out.agree (.below hSw (Nat.le_refl _)) (Nat.zero_le _) Hbl.out); go_simp
                          try simp only [ν1, ν2, ν3, ν4, ν5, ν6, ν7, ν8]
                          refine wpAnyH_take (i := 22) (v := .pointer (some ⟨B, 0, none⟩)) rfl (by kernel_rfl) (by kernel_rfl) (by kernel_rfl) (fun _ _ _ h => h) (Or.inl ⟨by rfl, ?_⟩) hHeld ?_
                          · intro w' hSw; go_simp
                          try simp only [ν1, ν2, ν3, ν4, ν5, ν6, ν7, ν8]
                          refine wpAnyH_take (i := 23) (v := .pointer (some ⟨B, 0, none⟩)) rfl (by kernel_rfl) (by kernel_rfl) (by kernel_rfl) (fun _ _ _ h => h) (Or.inl ⟨by rfl, ?_⟩) hHeld ?_
                          · intro w' hSw; go_simp
                          try simp only [ν1, ν2, ν3, ν4, ν5, ν6, ν7, ν8]
                          refine wpAnyH_take (i := 24) (v := .pointer (some ⟨B, 1, none⟩)) rfl (by kernel_rfl) (by kernel_rfl) (by kernel_rfl) (fun _ _ _ h => h) (Or.inl ⟨by rfl, ?_⟩) hHeld ?_
                          · intro w' hSw; go_simp
                          try simp only [ν1, ν2, ν3, ν4, ν5, ν6, ν7, ν8]
                          refine wpAnyH_take (i := 25) (v := .slice (some ⟨ba, oa, none⟩) na ca) rfl (by kernel_rfl) (by kernel_rfl) (by kernel_rfl) (fun _ _ _ h => h) (Or.inl ⟨by rfl, ?_⟩) hHeld ?_
                          · intro w' hSw; have kc := (Hblk2.out.below hSw Hblk2.out.lt).cells; have k1 := kc 1 _ rfl; simp only [Nat.zero_add] at k1; go_simp
                          try simp only [ν1, ν2, ν3, ν4, ν5, ν6, ν7, ν8]
                          refine wpAnyH_take (i := 26) (v := .int .i64 ((k : Int))) rfl (by kernel_rfl) (by kernel_rfl) (by kernel_rfl) (fun _ _ _ h => h) (Or.inl ⟨by rfl, ?_⟩) hHeld ?_
                          · intro w' hSw; go_simp
                          try simp only [ν1, ν2, ν3, ν4, ν5, ν6, ν7, ν8]
                          refine wpAnyH_take (i := 27) (v := .pointer (some ⟨ba, oa + k * 7, none⟩)) rfl (by kernel_rfl) (by kernel_rfl) (by kernel_rfl) (fun _ _ _ h => h) (Or.inl ⟨by rfl, ?_⟩) hHeld ?_
                          · intro w' hSw; go_simp
                          try simp only [ν1, ν2, ν3, ν4, ν5, ν6, ν7, ν8]
                          refine wpAnyH_take (i := 28) (v := .pointer (some ⟨ba, oa + k * 7 + 1, none⟩)) rfl (by kernel_rfl) (by kernel_rfl) (by kernel_rfl) (fun _ _ _ h => h) (Or.inl ⟨by rfl, ?_⟩) hHeld ?_
                          · intro w' hSw; go_simp
                          try simp only [ν1, ν2, ν3, ν4, ν5, ν6, ν7, ν8]
                          refine wpAnyH_take (i := 29) (v := .string ⟨A.name.toArray⟩) rfl (by kernel_rfl) (by kernel_rfl) (by kernel_rfl) (fun _ _ _ h => h) (Or.inl ⟨by rfl, ?_⟩) hHeld ?_
                          · intro w' hSw; obtain ⟨k0, k1, k2, k3, k4, k5, k6⟩ := (Hat.out.agree (.below hSw (Nat.le_refl _)) (Nat.zero_le _) Hal.out).c7; go_simp
                          try simp only [ν1, ν2, ν3, ν4, ν5, ν6, ν7, ν8]
                          refine wpAnyH_take (i := 30) (v := .bool true) rfl (by kernel_rfl) (by kernel_rfl) (by kernel_rfl) (fun _ _ _ h => h) (Or.inl ⟨by rfl, ?_⟩) hHeld ?_
                          · intro w' hSw; have kq := heq; go_simp
                          try simp only [ν1, ν2, ν3, ν4, ν5, ν6, ν7, ν8]
                          refine wpAnyH_take (i := 31) (v := .bool true) rfl (by kernel_rfl) (by kernel_rfl) (by kernel_rfl) (fun _ _ _ h => h) (Or.inl ⟨by rfl, ?_⟩) hHeld ?_
                          · intro w' hSw; go_simp
                          try simp only [ν1, ν2, ν3, ν4, ν5, ν6, ν7, ν8]
                          refine wpAnyH_take (i := 32) (v := .bool true) rfl (by kernel_rfl) (by kernel_rfl) (by kernel_rfl) (fun _ _ _ h => h) (Or.inl ⟨by rfl, ?_⟩) hHeld ?_
                          · intro w' hSw; go_simp
                          try simp only [ν1, ν2, ν3, ν4, ν5, ν6, ν7, ν8]
                          refine wpAnyH_take (i := 33) (v := .bool true) rfl (by kernel_rfl) (by kernel_rfl) (by kernel_rfl) (fun _ _ _ h => h) (Or.inl ⟨by rfl, ?_⟩) hHeld ?_
                          · intro w' hSw; go_simp
                          try simp only [ν1, ν2, ν3, ν4, ν5, ν6, ν7, ν8]
                          refine wpAnyH_done (by kernel_rfl) ?_ _
                          have hB3 := hHeld
                          clear hHeld
                          clear heq
                          have HBi2 := Lib.hid (HBi.out.trans (hB3.mono HBi.out.size))
                          clear hB3
                          go_wp2_with fail
                          go_roundw
                          case rel => exact ⟨i + 1, true, by omega, by go_num, rfl, Lib.hid (by rw [Hany.out, ← Hnm.out, Hfy.out]), HBi2.out⟩
                          case measure => simp [intOf]; omega
                        · have Hit := Lib.hid hcs2
                          have heq : (y.attr == A.name) = false := by simpa using hna2
                          have Hfy : Hid ((false || (!y.wild && y.attr == A.name && !y.back)) = false) := Lib.hid (by rw [← hyw, ← hyb, heq]; rfl)
                          clear hcs2 hyw hyb hna2
                          go_upto_region 18 with fail
                          refine wp_region_held_drew (S := fun w' => Below wi.heap.size wi w') (by kernel_rfl) (Below.refl _ _).drew (fun hHeld => ?_)
                          refine wpAnyH_take (i := 0) (v := .bool false) rfl (by kernel_rfl) (by kernel_rfl) (by kernel_rfl) (fun _ _ _ h => h) (Or.inl ⟨by rfl, ?_⟩) hHeld ?_
                          · intro w' hSw; go_simp
                          try simp only [ν1, ν2, ν3, ν4, ν5, ν6, ν7, ν8]
                          refine wpAnyH_take (i := 1) (v := .bool false) rfl (by kernel_rfl) (by kernel_rfl) (by kernel_rfl) (fun _ _ _ h => h) (Or.inl ⟨by rfl, ?_⟩) hHeld ?_
                          · intro w' hSw; go_simp
                          try simp only [ν1, ν2, ν3, ν4, ν5, ν6, ν7, ν8]
                          refine wpAnyH_take (i := 2) (v := .slice (some ⟨b, off, none⟩) np cp) rfl (by kernel_rfl) (by kernel_rfl) (by kernel_rfl) (fun _ _ _ h => h) (Or.inl ⟨by rfl, ?_⟩) hHeld ?_
                          · intro w' hSw; go_simp
                          try simp only [ν1, ν2, ν3, ν4, ν5, ν6, ν7, ν8]
                          refine wpAnyH_take (i := 3) (v := .int .i64 ((i : Int))) rfl (by kernel_rfl) (by kernel_rfl) (by kernel_rfl) (fun _ _ _ h => h) (Or.inl ⟨by rfl, ?_⟩) hHeld ?_
                          · intro w' hSw; go_simp
                          try simp only [ν1, ν2, ν3, ν4, ν5, ν6, ν7, ν8]
                          refine wpAnyH_take (i := 4) (v := .pointer (some ⟨b, off + i * 11, none⟩)) rfl (by kernel_rfl) (by kernel_rfl) (by kernel_rfl) (fun _ _ _ h => h) (Or.inl ⟨by rfl, ?_⟩) hHeld ?_
                          · intro w' hSw; go_simp
                          try simp only [ν1, ν2, ν3, ν4, ν5, ν6, ν7, ν8]
                          refine wpAnyH_take (i := 5) (v := .pointer (some ⟨b, off + i * 11, none⟩)) rfl (by kernel_rfl) (by kernel_rfl) (by kernel_rfl) (fun _ _ _ h => h) (Or.inl ⟨by rfl, ?_⟩) hHeld ?_
                          · intro w' hSw; go_simp
                          try simp only [ν1, ν2, ν3, ν4, ν5, ν6, ν7, ν8]
                          refine wpAnyH_take (i := 6) (v := .bool false) rfl (by kernel_rfl) (by kernel_rfl) (by kernel_rfl) (fun _ _ _ h => h) (Or.inl ⟨by rfl, ?_⟩) hHeld ?_
                          · intro w' hSw; obtain ⟨k0, k1, k2, k3, k4, k5, k6, k7, k8, k9, k10⟩ := item_cells (Hit.out.agree (.below hSw (Nat.le_refl _)) (Nat.zero_le _) Hbl.out); go_simp
                          try simp only [ν1, ν2, ν3, ν4, ν5, ν6, ν7, ν8]
                          refine wpAnyH_take (i := 7) (v := .bool true) rfl (by kernel_rfl) (by kernel_rfl) (by kernel_rfl) (fun _ _ _ h => h) (Or.inl ⟨by rfl, ?_⟩) hHeld ?_
                          · intro w' hSw; go_simp
                          try simp only [ν1, ν2, ν3, ν4, ν5, ν6, ν7, ν8]
                          refine wpAnyH_take (i := 8) (v := .bool true) rfl (by kernel_rfl) (by kernel_rfl) (by kernel_rfl) (fun _ _ _ h => h) (Or.inl ⟨by rfl, ?_⟩) hHeld ?_
                          · intro w' hSw; go_simp
                          try simp only [ν1, ν2, ν3, ν4, ν5, ν6, ν7, ν8]
                          refine wpAnyH_take (i := 9) (v := .slice (some ⟨b, off, none⟩) np cp) rfl (by kernel_rfl) (by kernel_rfl) (by kernel_rfl) (fun _ _ _ h => h) (Or.inl ⟨by rfl, ?_⟩) hHeld ?_
                          · intro w' hSw; go_simp
                          try simp only [ν1, ν2, ν3, ν4, ν5, ν6, ν7, ν8]
                          refine wpAnyH_take (i := 10) (v := .int .i64 ((i : Int))) rfl (by kernel_rfl) (by kernel_rfl) (by kernel_rfl) (fun _ _ _ h => h) (Or.inl ⟨by rfl, ?_⟩) hHeld ?_
                          · intro w' hSw; go_simp
                          try simp only [ν1, ν2, ν3, ν4, ν5, ν6, ν7, ν8]
                          refine wpAnyH_take (i := 11) (v := .pointer (some ⟨b, off + i * 11, none⟩)) rfl (by kernel_rfl) (by kernel_rfl) (by kernel_rfl) (fun _ _ _ h => h) (Or.inl ⟨by rfl, ?_⟩) hHeld ?_
                          · intro w' hSw; go_simp
                          try simp only [ν1, ν2, ν3, ν4, ν5, ν6, ν7, ν8]
                          refine wpAnyH_take (i := 12) (v := .pointer (some ⟨b, off + i * 11 + 2, none⟩)) rfl (by kernel_rfl) (by kernel_rfl) (by kernel_rfl) (fun _ _ _ h => h) (Or.inl ⟨by rfl, ?_⟩) hHeld ?_
                          · intro w' hSw; go_simp
                          try simp only [ν1, ν2, ν3, ν4, ν5, ν6, ν7, ν8]
                          refine wpAnyH_take (i := 13) (v := .bool false) rfl (by kernel_rfl) (by kernel_rfl) (by kernel_rfl) (fun _ _ _ h => h) (Or.inl ⟨by rfl, ?_⟩) hHeld ?_
                          · intro w' hSw; obtain ⟨k0, k1, k2, k3, k4, k5, k6, k7, k8, k9, k10⟩ := item_cells (Hit.out.agree (.below hSw (Nat.le_refl _)) (Nat.zero_le _) Hbl.out); go_simp
                          try simp only [ν1, ν2, ν3, ν4, ν5, ν6, ν7, ν8]
                          refine wpAnyH_take (i := 14) (v := .bool true) rfl (by kernel_rfl) (by kernel_rfl) (by kernel_rfl) (fun _ _ _ h => h) (Or.inl ⟨by rfl, ?_⟩) hHeld ?_
                          · intro w' hSw; go_simp
                          try simp only [ν1, ν2, ν3, ν4, ν5, ν6, ν7, ν8]
                          refine wpAnyH_take (i := 15) (v := .bool true) rfl (by kernel_rfl) (by kernel_rfl) (by kernel_rfl) (fun _ _ _ h => h) (Or.inl ⟨by rfl, ?_⟩) hHeld ?_
                          · intro w' hSw; go_simp
                          try simp only [ν1, ν2, ν3, ν4, ν5, ν6, ν7, ν8]
                          refine wpAnyH_take (i := 16) (v := .bool true) rfl (by kernel_rfl) (by kernel_rfl) (by kernel_rfl) (fun _ _ _ h => h) (Or.inl ⟨by rfl, ?_⟩) hHeld ?_
                          · intro w' hSw; go_simp
                          try simp only [ν1, ν2, ν3, ν4, ν5, ν6, ν7, ν8]
                          refine wpAnyH_take (i := 17) (v := .slice (some ⟨b, off, none⟩) np cp) rfl (by kernel_rfl) (by kernel_rfl) (by kernel_rfl) (fun _ _ _ h => h) (Or.inl ⟨by rfl, ?_⟩) hHeld ?_
                          · intro w' hSw; go_simp
                          try simp only [ν1, ν2, ν3, ν4, ν5, ν6, ν7, ν8]
                          refine wpAnyH_take (i := 18) (v := .int .i64 ((i : Int))) rfl (by kernel_rfl) (by kernel_rfl) (by kernel_rfl) (fun _ _ _ h => h) (Or.inl ⟨by rfl, ?_⟩) hHeld ?_
                          · intro w' hSw; go_simp
                          try simp only [ν1, ν2, ν3, ν4, ν5, ν6, ν7, ν8]
                          refine wpAnyH_take (i := 19) (v := .pointer (some ⟨b, off + i * 11, none⟩)) rfl (by kernel_rfl) (by kernel_rfl) (by kernel_rfl) (fun _ _ _ h => h) (Or.inl ⟨by rfl, ?_⟩) hHeld ?_
                          · intro w' hSw; go_simp
                          try simp only [ν1, ν2, ν3, ν4, ν5, ν6, ν7, ν8]
                          refine wpAnyH_take (i := 20) (v := .pointer (some ⟨b, off + i * 11 + 1, none⟩)) rfl (by kernel_rfl) (by kernel_rfl) (by kernel_rfl) (fun _ _ _ h => h) (Or.inl ⟨by rfl, ?_⟩) hHeld ?_
                          · intro w' hSw; go_simp
                          try simp only [ν1, ν2, ν3, ν4, ν5, ν6, ν7, ν8]
                          refine wpAnyH_take (i := 21) (v := .string ⟨y.attr.toArray⟩) rfl (by kernel_rfl) (by kernel_rfl) (by kernel_rfl) (fun _ _ _ h => h) (Or.inl ⟨by rfl, ?_⟩) hHeld ?_
                          · intro w' hSw; obtain ⟨k0, k1, k2, k3, k4, k5, k6, k7, k8, k9, k10⟩ := item_cells (Hit.out.agree (.below hSw (Nat.le_refl _)) (Nat.zero_le _) Hbl.out); go_simp
                          try simp only [ν1, ν2, ν3, ν4, ν5, ν6, ν7, ν8]
                          refine wpAnyH_take (i := 22) (v := .pointer (some ⟨B, 0, none⟩)) rfl (by kernel_rfl) (by kernel_rfl) (by kernel_rfl) (fun _ _ _ h => h) (Or.inl ⟨by rfl, ?_⟩) hHeld ?_
                          · intro w' hSw; go_simp
                          try simp only [ν1, ν2, ν3, ν4, ν5, ν6, ν7, ν8]
                          refine wpAnyH_take (i := 23) (v := .pointer (some ⟨B, 0, none⟩)) rfl (by kernel_rfl) (by kernel_rfl) (by kernel_rfl) (fun _ _ _ h => h) (Or.inl ⟨by rfl, ?_⟩) hHeld ?_
                          · intro w' hSw; go_simp
                          try simp only [ν1, ν2, ν3, ν4, ν5, ν6, ν7, ν8]
                          refine wpAnyH_take (i := 24) (v := .pointer (some ⟨B, 1, none⟩)) rfl (by kernel_rfl) (by kernel_rfl) (by kernel_rfl) (fun _ _ _ h => h) (Or.inl ⟨by rfl, ?_⟩) hHeld ?_
                          · intro w' hSw; go_simp
                          try simp only [ν1, ν2, ν3, ν4, ν5, ν6, ν7, ν8]
                          refine wpAnyH_take (i := 25) (v := .slice (some ⟨ba, oa, none⟩) na ca) rfl (by kernel_rfl) (by kernel_rfl) (by kernel_rfl) (fun _ _ _ h => h) (Or.inl ⟨by rfl, ?_⟩) hHeld ?_
                          · intro w' hSw; have kc := (Hblk2.out.below hSw Hblk2.out.lt).cells; have k1 := kc 1 _ rfl; simp only [Nat.zero_add] at k1; go_simp
                          try simp only [ν1, ν2, ν3, ν4, ν5, ν6, ν7, ν8]
                          refine wpAnyH_take (i := 26) (v := .int .i64 ((k : Int))) rfl (by kernel_rfl) (by kernel_rfl) (by kernel_rfl) (fun _ _ _ h => h) (Or.inl ⟨by rfl, ?_⟩) hHeld ?_
                          · intro w' hSw; go_simp
                          try simp only [ν1, ν2, ν3, ν4, ν5, ν6, ν7, ν8]
                          refine wpAnyH_take (i := 27) (v := .pointer (some ⟨ba, oa + k * 7, none⟩)) rfl (by kernel_rfl) (by kernel_rfl) (by kernel_rfl) (fun _ _ _ h => h) (Or.inl ⟨by rfl, ?_⟩) hHeld ?_
                          · intro w' hSw; go_simp
                          try simp only [ν1, ν2, ν3, ν4, ν5, ν6, ν7, ν8]
                          refine wpAnyH_take (i := 28) (v := .pointer (some ⟨ba, oa + k * 7 + 1, none⟩)) rfl (by kernel_rfl) (by kernel_rfl) (by kernel_rfl) (fun _ _ _ h => h) (Or.inl ⟨by rfl, ?_⟩) hHeld ?_
                          · intro w' hSw; go_simp
                          try simp only [ν1, ν2, ν3, ν4, ν5, ν6, ν7, ν8]
                          refine wpAnyH_take (i := 29) (v := .string ⟨A.name.toArray⟩) rfl (by kernel_rfl) (by kernel_rfl) (by kernel_rfl) (fun _ _ _ h => h) (Or.inl ⟨by rfl, ?_⟩) hHeld ?_
                          · intro w' hSw; obtain ⟨k0, k1, k2, k3, k4, k5, k6⟩ := (Hat.out.agree (.below hSw (Nat.le_refl _)) (Nat.zero_le _) Hal.out).c7; go_simp
                          try simp only [ν1, ν2, ν3, ν4, ν5, ν6, ν7, ν8]
                          refine wpAnyH_take (i := 30) (v := .bool false) rfl (by kernel_rfl) (by kernel_rfl) (by kernel_rfl) (fun _ _ _ h => h) (Or.inl ⟨by rfl, ?_⟩) hHeld ?_
                          · intro w' hSw; have kq := heq; go_simp
                          try simp only [ν1, ν2, ν3, ν4, ν5, ν6, ν7, ν8]
                          refine wpAnyH_take (i := 31) (v := .bool false) rfl (by kernel_rfl) (by kernel_rfl) (by kernel_rfl) (fun _ _ _ h => h) (Or.inl ⟨by rfl, ?_⟩) hHeld ?_
                          · intro w' hSw; go_simp
                          try simp only [ν1, ν2, ν3, ν4, ν5, ν6, ν7, ν8]
                          refine wpAnyH_take (i := 32) (v := .bool false) rfl (by kernel_rfl) (by kernel_rfl) (by kernel_rfl) (fun _ _ _ h => h) (Or.inl ⟨by rfl, ?_⟩) hHeld ?_
                          · intro w' hSw; go_simp
                          try simp only [ν1, ν2, ν3, ν4, ν5, ν6, ν7, ν8]
                          refine wpAnyH_take (i := 33) (v := .bool false) rfl (by kernel_rfl) (by kernel_rfl) (by kernel_rfl) (fun _ _ _ h => h) (Or.inl ⟨by rfl, ?_⟩) hHeld ?_
                          · intro w' hSw; go_simp
                          try simp only [ν1, ν2, ν3, ν4, ν5, ν6, ν7, ν8]
                          refine wpAnyH_done (by kernel_rfl) ?_ _
                          have hB3 := hHeld
                          clear hHeld
                          clear heq
                          have HBi2 := Lib.hid (HBi.out.trans (hB3.mono HBi.out.size))
                          clear hB3
                          go_wp2_with fail
                          go_roundw
                          case rel => exact ⟨i + 1, false, by omega, by go_num, rfl, Lib.hid (by rw [Hany.out, ← Hnm.out, Hfy.out]), HBi2.out⟩
                          case measure => simp [intOf]; omega
                · have iil : ¬ (i : Int) < (np : Int) := by omega
                  have Hnm2 : Hid (namedP (ps.map (·.1)) A.name = nm) := Lib.hid (by
                    have h := Hnm.out
                    rw [List.take_of_length_le (by rw [List.length_map]; have := Hnp.out; omega)] at h
                    rw [h]; rfl)
                  cases nm with
                  | true =>
                    have Hgo := Lib.hid (HgoN.out Hnm2.out)
                    have HSi := Lib.hid (Hst.out.below hBz HBi.out)
                    clear Hnm
                    go_wp2_with fail
                    go_roundw
                    case rel => exact ⟨k + 1, n1, qs, bs, by omega, by go_num, by have := Hqk.out; omega, HSi.out, Lib.hid (.inr ⟨by rw [Hgo.out]; exact Hbs.out.1, Hbs.out.2, fun h => by cases h⟩)⟩
                    case measure => simp [intOf]; omega
                  | false =>
                    have Hgo := Lib.hid (HgoB.out Hnm2.out)
                    have y1i := Hblk2.out.cells 1 _ rfl
                    simp only [Nat.zero_add] at y1i
                    obtain ⟨a0, a1, a2, a3, a4, a5, a6⟩ := Hat.out.c7
                    have hB5 := alloc_below wi (.cells #[.bool false, .string ⟨A.name.toArray⟩, .bool false, .int .i64 0, .bool false, .int .i64 0, .int .i64 0, .string ⟨#[]⟩, .bool false, .slice none 0 0, .int .i64 0] 66)
                    have hb5 := Blk.new wi [.bool false, .string ⟨A.name.toArray⟩, .bool false, .int .i64 0, .bool false, .int .i64 0, .int .i64 0, .string ⟨#[]⟩, .bool false, .slice none 0 0, .int .i64 0] 66 rfl
                    clear Hnm y1 y2 a0 a2 a3 a4 a5 a6
                    go_wp2_with fail
                    generalize wi.alloc (.cells #[.bool false, .string ⟨A.name.toArray⟩, .bool false, .int .i64 0, .bool false, .int .i64 0, .int .i64 0, .string ⟨#[]⟩, .bool false, .slice none 0 0, .int .i64 0] 66) = w5 at *
                    have hz5 := hB5.size
                    have HBo := Lib.hid (HBi.out.trans (hB5.mono HBi.out.size))
                    have Hst5 := Lib.hid (Hst.out.below hBz HBo.out)
                    have HP5 := Lib.hid (HP.out.turn Hst5.out.only Hst5.out.blk)
                    have Hpa5 := Lib.hid (Hpa.out.turn Hst5.out.only)
                    have hlen1 : A.name.length ≤ 281474976710656 := HF.out.lns A Hmem.out
                    have Hpt5 : Hid (Pat B 1 wi.heap.size w5.heap.size w5 (.slice (some ⟨wi.heap.size, 0, none⟩) 1 1) [((ofAttr A, (none, 0)) : IH)]) := Lib.hid ⟨⟨some ⟨wi.heap.size, 0, none⟩, 1, rfl, Nat.le_refl _, by decide, (fun h => by cases h), fun _ => ⟨wi.heap.size, 0, rfl, Nat.le_refl _, hb5.lt, fun k hk => by
                      obtain rfl : k = 0 := by simpa using hk
                      exact ⟨_, rfl, by rw [Nat.zero_mul]; exact hb5.cells, rfl⟩⟩⟩, fun p hp => by
                      obtain rfl := List.mem_singleton.1 hp
                      exact ⟨⟨hlen1, by simp [ofAttr]⟩, .slice none 0 0, rfl, Sl.nil _ _ _ _ _⟩, .inr (by omega), Nat.le_refl _, by omega, by simp [ofAttr, allL, It.all]⟩
                    have HF2 : Hid (Fit fs ats (d + 1) n1 path) := Lib.hid ⟨HF.out.fsl, HF.out.atl, HF.out.names, HF.out.lns, by omega, hgr, by have := HF.out.d0; omega, hd1, HF.out.pth⟩
                    have Hat5 := Lib.hid (Hat0.out.agree (.below HBo.out (Nat.le_refl _)) (Nat.zero_le _) Hal0.out)
                    clear hB5 hb5 hlen1 y1i a1
                    refine refLeaves_any d ih B hA 1 wi.heap.size w5.heap.size lo2 hi2 lv _ fs ats n1 e [((ofAttr A, (none, 0)) : IH)] 0 path _ _ w5 HP5.out Hpt5.out Hpa5.out HF2.out (Nat.zero_lt_succ _) rfl (.inr ⟨rfl, rfl⟩) _ (fun ws n2 la ll lc hOs hbs houts => ?_)
                    have hzs := hOs.size
                    obtain ⟨LS, hLS⟩ : ∃ LS, LS = leavesP fs ats d (treeP fs ats d) e (ofAttr A) (ps.map (·.1)) path := ⟨_, rfl⟩
                    have houts2 : LOut d w5.heap.size ws n1 n2 (.slice la ll lc) LS := by rw [hLS, leaves_attr _ ([((ofAttr A, (none, 0)) : IH)].map (·.1))]; exact houts
                    have Hbx : Hid (bf (ofAttr A) = (A.name, false, LS)) := Lib.hid (by rw [Hbf.out, hLS]; rfl)
                    clear hLS houts
                    rcases Nat.eq_zero_or_pos ll with hl0 | hl0
                    · subst hl0
                      have Hs2 := Lib.hid (RSt.skip (s := A.name) (bk := false) Hst5.out hBz hOs hbs houts2 hgr)
                      clear hOs hbs houts2
                      go_wp2_with fail
                      go_roundw
                      case rel => exact ⟨k + 1, n2, qs, _, by omega, by go_num, by have := Hqk.out; omega, Hs2.out, Lib.hid (.inr ⟨by rw [Hgo.out, Hbx.out, Hbs.out.1, List.append_assoc], Hbs.out.2, fun h => by cases h⟩)⟩
                      case measure => simp [intOf]; omega
                    · have hl1 : (0 : Int) < (ll : Int) := by omega
                      have Hs2 : Hid (∀ w'' v'', Below ws.heap.size ws w'' → OwnBr (Tr d) ws.heap.size w'' v'' (putH qs ((A.name, false, LS), (⟨la, ll, lc⟩ : HD))) → RSt d B lv (.slice (some ⟨ba, oa, none⟩) na ca) n w w'' v'' n2 (putH qs ((A.name, false, LS), (⟨la, ll, lc⟩ : HD))) (bs ++ [(A.name, false, LS)])) := Lib.hid (fun w'' v'' h1 h2 => RSt.put Hst5.out hBz hOs hbs houts2 hgr (by omega) h1 h2)
                      obtain ⟨nq, hnq⟩ : ∃ nq, nq = qs.length := ⟨_, rfl⟩
                      have Hnq := Lib.hid hnq
                      have Hown2 := Lib.hid (Own.turn Hst5.out.own hOs hBz)
                      have HatS := Lib.hid (Hat5.out.agree (lo := B + 1) (hi := hA) (hOs.agree HP5.out.le (fun k e => .inl (by have : k = B := e; omega))) Hba.out.1 Hba.out.2)
                      obtain ⟨a0, a1, a2, a3, a4, a5, a6⟩ := HatS.out.c7
                      have y1 := hbs.cells 1 _ rfl
                      simp only [Nat.zero_add] at y1
                      rw [← hnq] at Hown2 ⊢
                      clear hOs hbs houts2 hnq a0 a2 a3 a4 a5 a6
                      go_wp2_with fail
                      refine refPut_any w.heap.size ws.heap.size qs ((A.name, false, LS), (⟨la, ll, lc⟩ : HD)) _ ws (Sl.mono (OwnBr.sl Hown2.out) (flat_loc _) (Nat.le_refl _) (Nat.le_refl _)) (Nat.le_refl _) (by have := Hqk.out; omega) _ (fun wp vp hBp hop => ?_)
                      have Hs3 := Lib.hid (Hs2.out wp vp hBp hop)
                      have Hqk2 : Hid ((putH qs ((A.name, false, LS), (⟨la, ll, lc⟩ : HD))).length ≤ np + (k + 1)) := Lib.hid (by rw [putH_len]; have := Hqk.out; omega)
                      clear hBp hop y1 a1
                      go_wp2_with fail
                      go_roundw
                      case rel => exact ⟨k + 1, n2, _, _, by omega, by go_num, Hqk2.out, Hs3.out, Lib.hid (.inr ⟨by rw [Hgo.out, Hbx.out, Hbs.out.1, List.append_assoc], Hbs.out.2, fun h => by cases h⟩)⟩
                      case measure => simp [intOf]; omega
            · have HT := Lib.hid (Hend.out (.inl (by omega)))
              go_wp2_with fail
              go_meet
              exact ⟨n1, p9, qs.length, q9, rfl, Hst.out.only, Hst.out.blk, HT⟩
        · have kkl : ¬ (k : Int) < (na : Int) := by omega
          have HT := Lib.hid (Hend.out (.inr (.inr (by omega))))
          go_wp2_with fail
          go_meet
          exact ⟨n1, p9, qs.length, q9, rfl, Hst.out.only, Hst.out.blk, HT⟩
    case rest =>
      obtain ⟨n1, a, l, c, rfl, hO, hb, HT⟩ := hcut
      have hr := HR.out wc n1 a l c hO hb HT.out
      clear hO hb
      go_wp2_with fail
      first | exact hr | exact fin hr rfl
theorem refTree_any : ∀ d, RTree d
  | 0 => fun B hA D lo hi lo2 hi2 lv av fs ats n e ps path v pv w hP hp hpa hF hfine R hR => by
    have h1 := hF.n1
    have h2 := hF.d0
    omega
  | d + 1 => refTree_succ d (refTree_any d)
end Go.Proofs.Yticbhfmpnmolcaa
end
