/- Texts that the proofs of PullTells stand on, part 8. -/
import Derived.Test.YticbhfmpnmolcaaKPullTells7
/- pull's tree. (Printed by pulab.py.) -/
section
set_option linter.unusedVariables false
set_option linter.unusedSimpArgs false
namespace Go.Proofs.Yticbhfmpnmolcaa
open Go.RowKit
set_option linter.unusedVariables false
set_option linter.unusedSimpArgs false
/-- A tree under way. -/
structure PSt (d B M : Nat) (lv av : Value) (n : Int) (w0 wr : World) (t9 : Value) (n1 : Int) (qs : List (BH (Tr d))) (bs : List (Br (Tr d))) : Prop where
  only : Only (· = B) w0 wr
  blk : Blk wr B [lv, .map (some M), av, .int .i64 n1, .bool (decide (10000 < n1))] 49
  own : OwnBr (Tr d) w0.heap.size wr t9 qs
  ge : n ≤ n1
  le : n1 ≤ 10001 + ((d + 1 : Nat) : Int)
  good : n + (brsSize (Tr.size d) bs : Nat) ≤ 10000 → n1 = n + (brsSize (Tr.size d) bs : Nat) ∧ qs.map (·.1) = fullB bs ∧ KeptAt (BrF d) w0.heap.size wr t9 qs
  bad : 10000 < n + (brsSize (Tr.size d) bs : Nat) → 10000 < n1
theorem fullB_snoc {T : Type} (bs : List (Br T)) (b : Br T) : fullB (bs ++ [b]) = fullB bs ++ (if b.2.2 = [] then [] else [b]) := by
  unfold fullB
  rw [List.filter_append]
  congr 1
  by_cases h : b.2.2 = []
  · rw [if_pos h, List.filter_cons_of_neg (by simp [h])]; rfl
  · rw [if_neg h, List.filter_cons_of_pos (by simp [h])]; rfl
section
variable {d B M : Nat} {lv av : Value} {n n1 n2 : Int} {w0 wr w' w'' w3 : World} {t9 v3 : Value} {qs : List (BH (Tr d))} {bs : List (Br (Tr d))} {la : Option Addr} {ll lc : Nat} {ls : List (Lf (Tr d))} {s : S} {bk : Bool}
theorem PSt.below (h : PSt d B M lv av n w0 wr t9 n1 qs bs) (hB : B < w0.heap.size) (hb : Below wr.heap.size wr w') : PSt d B M lv av n w0 w' t9 n1 qs bs :=
  ⟨h.only.trans (Below.only hb), h.blk.below hb h.blk.lt, Own.kept h.own hb, h.ge, h.le, fun hs => by
    obtain ⟨g1, g2, g3⟩ := h.good hs
    exact ⟨g1, g2, g3.turn (BrF.loc d) (Below.only hb) hB⟩, h.bad⟩
theorem PSt.skip (h : PSt d B M lv av n w0 wr t9 n1 qs bs) (hB : B < w0.heap.size) (hO : Only (· = B) wr w') (hb : Blk w' B [lv, .map (some M), av, .int .i64 n2, .bool (decide (10000 < n2))] 49) (hl : LOut d wr.heap.size w' n1 n2 (.slice la 0 lc) ls) (hn : n1 ≤ 10000) :
    PSt d B M lv av n w0 w' t9 n2 qs (bs ++ [(s, bk, ls)]) := by
  obtain ⟨l1, l2, l3, l4⟩ := hl
  have hge := h.ge
  have hbad := h.bad
  refine ⟨h.only.trans hO, hb, Own.turn h.own hO hB, by omega, l2, fun hs => ?_, fun hs => ?_⟩
  · rw [brs_snoc] at hs ⊢
    obtain ⟨g1, g2, g3⟩ := h.good (by omega)
    obtain ⟨m1, m2⟩ := l3 (by simp only at hs; omega)
    obtain ⟨a, c, e, -⟩ := m2.form
    injection e with e1 e2 e3
    have hls : ls = [] := List.eq_nil_of_length_eq_zero e2.symm
    subst hls
    refine ⟨by simp only [lfsSize, List.map_nil, List.sum_nil] at m1 ⊢; omega, ?_, g3.turn (BrF.loc d) hO hB⟩
    rw [fullB_snoc, g2]
    simp
  · rw [brs_snoc] at hs
    simp only at hs
    by_cases hs2 : n + (brsSize (Tr.size d) bs : Nat) ≤ 10000
    · have := (h.good hs2).1
      exact l4 (by omega)
    · have := hbad (by omega); omega
theorem PSt.app (h : PSt d B M lv av n w0 wr t9 n1 qs bs) (hB : B < w0.heap.size) (hO : Only (· = B) wr w') (hb : Blk w' B [lv, .map (some M), av, .int .i64 n2, .bool (decide (10000 < n2))] 49) (hl : LOut d wr.heap.size w' n1 n2 (.slice la ll lc) ls) (hn : n1 ≤ 10000) (hl0 : ll ≠ 0)
    (hB2 : Below w'.heap.size w' w'') (ha : Appended w'' t9 w3 v3) (hp : OwnBr (Tr d) w0.heap.size w3 v3 (qs ++ [((s, bk, ls), (⟨la, ll, lc⟩ : HD))])) : PSt d B M lv av n w0 w3 v3 n2 (qs ++ [((s, bk, ls), (⟨la, ll, lc⟩ : HD))]) (bs ++ [(s, bk, ls)]) := by
  obtain ⟨l1, l2, l3, l4⟩ := hl
  have hge := h.ge
  have hbad := h.bad
  have hs0 := h.only.size
  have hs1 := hO.size
  have hs2 := hB2.size
  have hO2 := hO.trans (Below.only hB2)
  have hown := Own.turn h.own hO2 hB
  refine ⟨(h.only.trans hO2).then (ha.below (by omega) (fun k e => (Own.lt hown k e).1)), ha.blk (hb.below hB2 hb.lt) (fun e => by have := (Own.lt hown _ e).1; omega), hp, by omega, l2, fun hs => ?_, fun hs => ?_⟩
  · rw [brs_snoc] at hs ⊢
    obtain ⟨g1, g2, g3⟩ := h.good (by omega)
    obtain ⟨m1, m2⟩ := l3 (by simp only at hs; omega)
    obtain ⟨a, c, e, -⟩ := m2.form
    injection e with e1 e2 e3
    have hls : ls ≠ [] := fun e => hl0 (by rw [e2, e]; rfl)
    refine ⟨by simp only; omega, ?_, ?_⟩
    · rw [List.map_append, g2, fullB_snoc, if_neg hls]; rfl
    · have k1 := (g3.turn (BrF.loc d) hO2 hB).snoc (p := ((s, bk, ls), (⟨la, ll, lc⟩ : HD))) (a := wr.heap.size) (b := w'.heap.size) hs0 hs2 (m2.agree (lfE_loc (TrIn.loc d)) (.below hB2 (Nat.le_refl _))) (fun k hk => .inl (Own.lt h.own k hk).2)
      exact k1.app (BrF.loc d) ha
  · rw [brs_snoc] at hs
    simp only at hs
    by_cases hs2 : n + (brsSize (Tr.size d) bs : Nat) ≤ 10000
    · have := (h.good hs2).1
      exact l4 (by omega)
    · have := hbad (by omega); omega
/-- Sorted in the end. -/
theorem PSt.out {t : Tr (d + 1)} {qs' : List (BH (Tr d))} (h : PSt d B M lv av n w0 wr t9 n1 qs bs) (hO : Only (fun z => t9.ownBlock = some z) wr w') (ho : OwnBr (Tr d) w0.heap.size w' t9 qs') (hp : qs'.Perm qs) (hs : qs'.Pairwise fun a b => ¬ cmpBH b a < 0)
    (hk : bs.Pairwise fun a b => keyB a ≠ keyB b) (ht : t = bs.foldl addB []) (hz : Tr.size (d + 1) t = brsSize (Tr.size d) bs) {lo : Nat} (hlo : lo ≤ w0.heap.size) : TOut (d + 1) lo w' n n1 t9 t := by
  refine ⟨h.ge, h.le, fun hs2 => ?_, fun hs2 => ?_⟩
  · rw [hz] at hs2 ⊢
    obtain ⟨g1, g2, g3⟩ := h.good hs2
    refine ⟨g1, ?_⟩
    have e : qs'.map (·.1) = bs.foldl addB [] := by
      refine sort_adds hk ?_ ?_
      · rw [← g2]; exact hp.map _
      · rw [List.pairwise_map]; exact hs
    rw [ht, ← e]
    refine (TrIn.loc (d + 1)).mono (BrsOk.sl (fun p hp2 => ?_) (OwnBr.sl ho)) hlo (Nat.le_refl _)
    obtain ⟨a, b, k1, k2, k3, k4⟩ := g3 p (hp.mem_iff.1 hp2)
    exact (BrF.loc d).mono ((BrF.loc d).agree k3 (fun k q1 q2 => hO.block k (by omega) (fun e => by have := k4 k e; omega))) k1 (Nat.le_trans k2 hO.size)
  · rw [hz] at hs2
    exact h.bad hs2
end
set_option maxRecDepth 100000 in
set_option maxHeartbeats 16000000 in
theorem pTree_succ (d : Nat) (ih : PTree d) : PTree (d + 1) := by
  intro B M hA D lo hi lo2 hi2 lv av fs ats n e ps path v pv w hP hp hpa hF hfine R hR
  have HR := Lib.hid hR
  have HP := Lib.hid hP
  have Hp := Lib.hid hp
  have Hpa := Lib.hid hpa
  have HF := Lib.hid hF
  have Hfine := Lib.hid hfine
  have hn0 := hF.n0
  have hn1 := hF.n1
  have hd1 := hF.d1
  have hplen := hp.len
  have hBb := hP.blk.lt
  have hatl := hF.atl
  obtain ⟨ap, cp, rfl, -⟩ := hp.sl.form
  obtain ⟨aq, cq, rfl, -⟩ := hpa.sl.form
  obtain ⟨full, hfull⟩ : ∃ full, full = (itemsP fs ats e (ps.map (·.1))).map (branchP fs ats d (treeP fs ats d) e (ps.map (·.1)) path) := ⟨_, rfl⟩
  have Hfull := Lib.hid hfull
  have Htree : Hid (treeP fs ats (d + 1) e (ps.map (·.1)) path = full.foldl addB []) := Lib.hid (by rw [hfull]; rfl)
  have Hsize : Hid (Tr.size (d + 1) (treeP fs ats (d + 1) e (ps.map (·.1)) path) = brsSize (Tr.size d) full) := Lib.hid (by rw [hfull]; exact tree_size fs ats d e _ path)
  have Hkeys : Hid (full.Pairwise fun a b => keyB a ≠ keyB b) := Lib.hid (by
    rw [hfull, List.pairwise_map]
    exact keys_apart hfine hF.names)
  clear hR hP hp hpa hF hfine hfull
  go_enter Try.func15, Try.ntmps15
  go_wp2_with fail
  refine items_any B M hA D lo hi lv av fs ats n e ps _ w HP.out Hp.out hatl _ (fun w1 v1 qi hB1 ho1 hmap1 hat1 => ?_)
  have HB1 := Lib.hid hB1
  have hz1 := hB1.size
  have Hi1 := Lib.hid (Sl.ofOwn IH.len ho1)
  have Hmap1 := Lib.hid hmap1
  have Hat1 := Lib.hid hat1
  obtain ⟨ni, hni⟩ : ∃ ni, ni = qi.length := ⟨_, rfl⟩
  have Hni := Lib.hid hni
  have Hfl : Hid (full.length = ni) := Lib.hid (by rw [Hfull.out, List.length_map, ← hmap1, List.length_map, hni])
  have hnib : ni ≤ 2000 := by
    have h1 : (itemsP fs ats e (ps.map (·.1))).length = ni := by rw [← hmap1, List.length_map, hni]
    rw [← h1]
    unfold itemsP
    rw [List.length_append]
    have h2 := List.length_filter_le (fun i : It => !i.wild) (ps.map (·.1))
    rw [List.length_map] at h2
    split
    · rw [List.length_map]
      have h3 := List.length_filter_le (fun a : Attr => (fs.any fun f => f.e == e && f.a == a.id) && !namedP (ps.map (·.1)) a.name) ats
      omega
    · simp; omega
  obtain ⟨p1, c1, e1⟩ := Own.slice ho1
  rw [← hni] at e1
  subst e1
  have Hi1n : Hid (IHs w.heap.size w1.heap.size w1 (.slice p1 ni c1) qi) := Lib.hid Hi1.out
  have HP1 := Lib.hid (HP.out.below hB1)
  have hBz : B < w1.heap.size := by omega
  clear hB1 ho1 hmap1 hat1 hni Hi1
  go_wp2_with fail
  go_loopw [9, 18] (fun t9 t18 wr => ∃ (k : Nat) (n1 : Int) (qs : List (BH (Tr d))), k ≤ ni ∧ t18 = .int .i64 k ∧ qs.length ≤ k ∧ PSt d B M lv av n w1 wr t9 n1 qs (full.take k)) (fun _ t18 _ => ni - (intOf t18).toNat)
  case atStart => exact ⟨0, n, [], Nat.zero_le _, rfl, Nat.le_refl _, ⟨Only.refl _ _, HP1.out.blk, Own.nil _ _ _ _ _, Int.le_refl _, by omega, fun _ => ⟨by simp [brsSize], by simp [fullB], KeptAt.nil⟩, fun h => by simp [brsSize] at h; omega⟩⟩
  case round =>
    obtain ⟨k, n1, qs, hk, rfl, hqk, hst⟩ := hrel
    obtain ⟨wo, ewo⟩ : ∃ x, x = wr := ⟨_, rfl⟩
    subst ewo
    have Hst := Lib.hid hst
    have Hqk := Lib.hid hqk
    have hz := hst.only.size
    have hnle := hst.le
    have hnge := hst.ge
    have kk0 : (0 : Int) ≤ (k : Int) := by omega
    obtain ⟨p9, c9, e9⟩ := Own.slice hst.own
    subst e9
    clear hst hqk
    by_cases hlt : k < ni
    · have kkl : (k : Int) < (ni : Int) := by omega
      have hki : k < qi.length := by have := Hni.out; omega
      have hkf : k < full.length := by have := Hfl.out; omega
      have Hio := Lib.hid (Sl.agree Hi1n.out (flat_loc _) (Hst.out.only.agree (Nat.le_refl _) (fun k e => .inl (by have : k = B := e; omega))))
      obtain ⟨ao', cap', e', -, -, -, hc⟩ := Hio.out.form
      injection e' with e1 e2 e3
      subst e1 e3
      obtain ⟨b, off, rfl, hb1, hb2, hcc⟩ := hc k hki
      obtain ⟨cs, -, hcs, e4⟩ := hcc k hki
      have e5 : cs = IH.enc qi[k] := e4
      rw [e5] at hcs
      have Hmemi : Hid (qi[k] ∈ qi) := Lib.hid (List.getElem_mem hki)
      have Hstep : Hid (full.take (k + 1) = full.take k ++ [branchP fs ats d (treeP fs ats d) e (ps.map (·.1)) path qi[k].1]) := Lib.hid (by
        rw [List.take_succ_eq_append_getElem hkf]
        congr 2
        simp only [Hfull.out, ← Hmap1.out, List.getElem_map])
      generalize qi[k] = z at *
      obtain ⟨x, xp, xc⟩ := z
      have hcs2 : CellsAt wo b (off + k * 11) [.bool x.wild, .string ⟨x.attr.toArray⟩, .bool x.back, .int .i64 x.limit, .bool x.has, .int .i64 x.dflt.kind, .int .i64 x.dflt.n, .string ⟨x.dflt.s.toArray⟩, .bool x.nested, .slice xp x.sub.length xc, .int .i64 x.rc] := hcs
      obtain ⟨x0, x1, x2, x3, x4, x5, x6, x7, x8, x9, x10⟩ := item_cells hcs2
      have hB4 := alloc_below wo (.cells #[.bool x.wild, .string ⟨x.attr.toArray⟩, .bool x.back, .int .i64 x.limit, .bool x.has, .int .i64 x.dflt.kind, .int .i64 x.dflt.n, .string ⟨x.dflt.s.toArray⟩, .bool x.nested, .slice xp x.sub.length xc, .int .i64 x.rc] 66)
      have hb4 := Blk.new wo [.bool x.wild, .string ⟨x.attr.toArray⟩, .bool x.back, .int .i64 x.limit, .bool x.has, .int .i64 x.dflt.kind, .int .i64 x.dflt.n, .string ⟨x.dflt.s.toArray⟩, .bool x.nested, .slice xp x.sub.length xc, .int .i64 x.rc] 66 rfl
      clear hc hcc e4 e5 e2 hcs hcs2 hb1 hb2 cs
      go_upto_region 5 with fail
      generalize wo.alloc (.cells #[.bool x.wild, .string ⟨x.attr.toArray⟩, .bool x.back, .int .i64 x.limit, .bool x.has, .int .i64 x.dflt.kind, .int .i64 x.dflt.n, .string ⟨x.dflt.s.toArray⟩, .bool x.nested, .slice xp x.sub.length xc, .int .i64 x.rc] 66) = w4 at *
      obtain ⟨b4, eb4⟩ : ∃ b, b = wo.heap.size := ⟨_, rfl⟩
      rw [← eb4] at hb4 ⊢
      have h4ge : wo.heap.size ≤ b4 := Nat.le_of_eq eb4.symm
      have hz4 := hB4.size
      have Hst4 := Lib.hid (Hst.out.below hBz hB4)
      have Hb4 := Lib.hid hb4
      clear x0 x1 x2 x3 x4 x5 x6 x7 x8 x9 x10 hB4 eb4
      have y4 := Hst4.out.blk.cells 4 _ rfl
      simp only [Nat.zero_add] at y4
      obtain ⟨x0, x1, x2, x3, x4, x5, x6, x7, x8, x9, x10⟩ := item_cells hb4.cells
      simp only [Nat.zero_add] at x1 x2 x3 x4 x5 x6 x7 x8 x9 x10
      obtain ⟨g, hg⟩ : ∃ g, g = decide (10000 < n1) := ⟨_, rfl⟩
      rw [← hg] at y4
      have Hg := Lib.hid hg
      clear hg hb4
      cases g with
      | true =>
        have hgr : (10000 : Int) < n1 := by simpa using Hg.out.symm
        have Hgr := Lib.hid hgr
        have hr := HR.out w4 n1 none 0 0 ((Below.only HB1.out).trans Hst4.out.only) Hst4.out.blk (by
          have h1 := Hst4.out
          have hmono := brs_take_le (Tr.size d) full k
          refine ⟨h1.ge, h1.le, fun hs => ?_, fun _ => Hgr.out⟩
          rw [Hsize.out] at hs
          have := (h1.good (by omega)).1
          omega)
        clear hgr
        go_wp2_with fail
        first | exact hr | exact fin hr rfl
      | false =>
        have hgr0 : ¬ (10000 : Int) < n1 := by simpa using Hg.out.symm
        have hgr : n1 ≤ 10000 := by omega
        have HOw : Hid (Only (· = B) w w4) := Lib.hid ((Below.only HB1.out).trans Hst4.out.only)
        have HX4 : Hid (PulX B M hA w4 lv av fs ats n1) := Lib.hid (HP.out.turn HOw.out Hst4.out.blk)
        have Hp4 := Lib.hid (Hp.out.turn HOw.out)
        have Hpa4 := Lib.hid (Hpa.out.turn HOw.out)
        have HF4 : Hid (Fit fs ats (d + 1) n1 path) := Lib.hid ⟨HF.out.fsl, HF.out.atl, HF.out.names, HF.out.lns, by omega, hgr, by have := HF.out.d0; omega, hd1, HF.out.pth⟩
        have Hx4 : Hid (ItIn B w4 x xp xc ∧ ((finePat (ps.map (·.1)) = true ∧ x ∈ ps.map (·.1) ∧ x.wild = false) ∨ (x.nested = false ∧ x.rc = 0))) := Lib.hid (by
          rcases Hat1.out _ Hmemi.out with ⟨h1, h2⟩ | ⟨a, ha, h1⟩
          · exact ⟨⟨Hp4.out.lens h1, Hp4.out.within h1⟩, .inl ⟨Hfine.out, List.mem_map.2 ⟨_, h1, rfl⟩, h2⟩⟩
          · injection h1 with h1 h2
            injection h2 with h2 h3
            subst h1 h2 h3
            exact ⟨⟨⟨HF.out.lns a ha, by simp [ofAttr]⟩, 0, [], rfl, ⟨Sl.nil _ _ _ _ _, fun p hp => absurd hp List.not_mem_nil, .inl (Nat.le_refl _), by omega, by omega, by simp [allL]⟩⟩, .inr ⟨rfl, rfl⟩⟩)
        go_wp2_with fail
        refine branch_any d ih B M hA D lo hi lo2 hi2 lv av fs ats n1 e x xp xc ps path _ _ w4 HX4.out Hx4.out.1 Hp4.out Hpa4.out HF4.out Hx4.out.2 _ (fun w5 n2 la ll lc hO5 hb5 hl5 => ?_)
        have hz5 := hO5.size
        obtain ⟨LS, hLS⟩ : ∃ LS, LS = leavesP fs ats d (treeP fs ats d) e x (ps.map (·.1)) path := ⟨_, rfl⟩
        rw [← hLS] at hl5
        have Hstep2 : Hid (full.take (k + 1) = full.take k ++ [(x.attr, x.back, LS)]) := Lib.hid (by rw [Hstep.out, hLS]; rfl)
        have hB6 := alloc_below w5 (.cells #[.string ⟨x.attr.toArray⟩, .bool x.back, .slice la ll lc] 62)
        have hb6 := Blk.new w5 [.string ⟨x.attr.toArray⟩, .bool x.back, .slice la ll lc] 62 rfl
        clear hLS x0 x1 x2 x3 x4 x5 x6 x7 x8 x9 x10 y4
        go_upto_region 8 with fail
        generalize w5.alloc (.cells #[.string ⟨x.attr.toArray⟩, .bool x.back, .slice la ll lc] 62) = w6 at *
        obtain ⟨b6, eb6⟩ : ∃ b, b = w5.heap.size := ⟨_, rfl⟩
        rw [← eb6] at hb6 ⊢
        have hz6 := hB6.size
        obtain ⟨z0, z1, z2⟩ := branch_cells hb6.cells
        simp only [Nat.zero_add] at z1 z2
        clear eb6 hb6
        rcases Nat.eq_zero_or_pos ll with hl0 | hl0
        · subst hl0
          have Hs2 := Lib.hid ((PSt.skip (s := x.attr) (bk := x.back) Hst4.out hBz hO5 hb5 hl5 hgr).below hBz hB6)
          clear hO5 hb5 hl5 hB6
          go_wp2_with fail
          go_roundw
          case rel => exact ⟨k + 1, n2, qs, by omega, by go_num, by have := Hqk.out; omega, by rw [Hstep2.out]; exact Hs2.out⟩
          case measure => simp [intOf]; omega
        · have hl1 : (0 : Int) < (ll : Int) := by omega
          have hown6 := Own.kept (Own.turn Hst4.out.own hO5 hBz) hB6
          obtain ⟨v8, w8, hr8, ho8, ha8⟩ := app_one Try.underlying29 infoBr rfl BH.len BH.one hown6 ((x.attr, x.back, LS), (⟨la, ll, lc⟩ : HD)) (n := w6.heap.size) rfl (by have := Hqk.out; omega) (by decide) (by omega)
          have Hs2 := Lib.hid (PSt.app Hst4.out hBz hO5 hb5 hl5 hgr (by omega) hB6 ha8 ho8)
          simp only [BH.enc] at hr8
          clear hO5 hb5 hl5 hB6 hown6 ho8 ha8
          go_wp2_with (at_builtin; refine AtApp.of ?_)
          refine AtApp.go hr8 rfl rfl rfl rfl ?_
          clear hr8 z0 z1 z2
          go_wp2_with fail
          go_roundw
          case rel => exact ⟨k + 1, n2, qs ++ [((x.attr, x.back, LS), (⟨la, ll, lc⟩ : HD))], by omega, by go_num, by rw [List.length_append]; have := Hqk.out; simp; omega, by rw [Hstep2.out]; exact Hs2.out⟩
          case measure => simp [intOf]; omega
    · have hke : k = ni := by omega
      have kkl : ¬ ((k : Nat) : Int) < (ni : Int) := by omega
      have Hst2 : Hid (PSt d B M lv av n w1 wo (.slice p9 qs.length c9) n1 qs full) := Lib.hid (by
        have h := Hst.out
        rwa [List.take_of_length_le (by rw [Hfl.out]; omega)] at h)
      clear hke
      go_wp2_with fail
      refine sortBrs_any w1.heap.size _ qs wo Hst2.out.own (by have := Hqk.out; omega) _ (fun w5 qs' hO5 ho5 hp5 hs5 => ?_)
      have hl5 : qs'.length = qs.length := hp5.length_eq
      have hon : Only (· = B) w w5 := ((Below.only HB1.out).trans Hst2.out.only).then (hO5.below (by omega) (fun k e => by have := (Own.lt Hst2.out.own k e).1; omega))
      have hr := HR.out w5 n1 p9 qs.length c9 hon (hO5.blk Hst2.out.blk (fun e => by have := (Own.lt Hst2.out.own _ e).1; omega)) (PSt.out Hst2.out hO5 ho5 hp5 hs5 Hkeys.out Htree.out Hsize.out hz1)
      have Hr := Lib.hid hr
      clear hO5 ho5 hp5 hs5 hon hr hl5
      go_wp2_with fail
      first | exact Hr.out | exact fin Hr.out rfl
theorem pTree_any : ∀ d, PTree d
  | 0 => fun B M hA D lo hi lo2 hi2 lv av fs ats n e ps path v pv w hP hp hpa hF hfine R hR => by
    have h1 := hF.n1
    have h2 := hF.d0
    omega
  | d + 1 => pTree_succ d (pTree_any d)
end Go.Proofs.Yticbhfmpnmolcaa
end

/- Are a pattern's attributes known? Both say the same. (Printed by pulac.py.) -/
section
set_option linter.unusedVariables false
set_option linter.unusedSimpArgs false
namespace Go.Proofs.Yticbhfmpnmolcaa
open Go.RowKit
set_option linter.unusedVariables false
set_option linter.unusedSimpArgs false
mutual
def It.known (ats : List Attr) : It → Bool
  | ⟨wild, attr, _, _, _, _, _, sub, _⟩ => ((ats.findIdx? (byName attr)).isSome || wild) && knownL ats sub
def knownL (ats : List Attr) : List It → Bool
  | [] => true
  | x :: r => x.known ats && knownL ats r
end
theorem It.known_eq (ats : List Attr) (x : It) : x.known ats = (((ats.findIdx? (byName x.attr)).isSome || x.wild) && knownL ats x.sub) := by cases x; rw [It.known]
theorem knownL_all (ats : List Attr) : ∀ l : List It, knownL ats l = l.all (It.known ats)
  | [] => by rw [knownL]; rfl
  | x :: r => by rw [knownL, knownL_all ats r]; rfl
theorem known_no {ats : List Attr} {l : List It} {k : Nat} (hk : k < l.length) (h : l[k].known ats = false) : knownL ats l = false := by
  rw [knownL_all, List.all_eq_false]
  exact ⟨_, List.getElem_mem hk, by rw [h]; simp⟩
theorem known_step {ats : List Attr} {l : List It} {k : Nat} (hk : k < l.length) (h : (l.take k).all (It.known ats) = true) (hx : l[k].known ats = true) : (l.take (k + 1)).all (It.known ats) = true := by
  rw [List.take_succ_eq_append_getElem hk, List.all_append, h]; simp [hx]
def PKnown (d : Nat) : Prop := ∀ (B M hA lo hi : Nat) (lv av : Value) (fs : List Ft) (ats : List Attr) (n : Int) (l : List It) (v : Value) (w : World), PulX B M hA w lv av fs ats n → Its d lo hi w v l → hi ≤ w.heap.size → ∀ (R : Ending → World → Prop),
  (∀ w', Below w.heap.size w w' → R (.returned (.bool (knownL ats l))) w') → Calls Try.prog 14 #[.pointer (some ⟨B, 0, none⟩), v] w R
def RKnown (d : Nat) : Prop := ∀ (B hA lo hi : Nat) (lv av : Value) (fs : List Ft) (ats : List Attr) (n : Int) (l : List It) (v : Value) (w : World), PulR B hA w lv av fs ats n → Its d lo hi w v l → hi ≤ w.heap.size → ∀ (R : Ending → World → Prop),
  (∀ w', Below w.heap.size w w' → R (.returned (.bool (knownL ats l))) w') → Calls Try.prog 19 #[.pointer (some ⟨B, 0, none⟩), v] w R
set_option maxRecDepth 100000 in
set_option maxHeartbeats 16000000 in
theorem pKnown_at (d : Nat) (ih : ∀ d', d' < d → PKnown d') : PKnown d := by
  intro B M hA lo hi lv av fs ats n l v w hP hv hhi R hR
  have HR := Lib.hid hR
  have HP := Lib.hid hP
  have Hv := Lib.hid hv
  have hl63 := hv.len
  obtain ⟨ao, cv, rfl, -, -, -, -⟩ := hv.form
  clear hR hP hv
  go_enter Try.func14, Try.ntmps14
  go_wp2_with fail
  go_loopw [11] (fun t11 wr => ∃ (k : Nat), k ≤ l.length ∧ Hid ((l.take k).all (It.known ats) = true) ∧ t11 = .int .i64 k ∧ Below w.heap.size w wr) (fun t11 _ => l.length - (intOf t11).toNat)
  case atStart => exact ⟨0, Nat.zero_le _, Lib.hid (by simp), rfl, Below.refl _ _⟩
  case round =>
    obtain ⟨k, hk, Hall, rfl, hB⟩ := hrel
    obtain ⟨wo, ewo⟩ : ∃ x, x = wr := ⟨_, rfl⟩
    subst ewo
    have HB := Lib.hid hB
    have hz := hB.size
    have HPo := Lib.hid (HP.out.below hB)
    have kk0 : (0 : Int) ≤ (k : Int) := by omega
    clear hB
    by_cases hlt : k < l.length
    · have kkl : (k : Int) < (l.length : Int) := by omega
      have Hx := Lib.hid (Sl.below Hv.out (itE_loc d) HB.out hhi)
      have Hhi : Hid (hi ≤ wo.heap.size) := Lib.hid (by omega)
      obtain ⟨ao', cap', e', -, -, -, hc⟩ := Hx.out.form
      injection e' with e1 e2 e3
      subst e1 e3
      obtain ⟨b, off, rfl, hb1, hb2, hcc⟩ := hc k hlt
      obtain ⟨cs, -, hcs, hel⟩ := hcc k hlt
      have Hno : Hid (l[k].known ats = false → knownL ats l = false) := Lib.hid (known_no hlt)
      have Hst : Hid (l[k].known ats = true → (l.take (k + 1)).all (It.known ats) = true) := Lib.hid (known_step hlt Hall.out)
      generalize l[k] = x at *
      cases d with
      | zero => exact hel.elim
      | succ d =>
        obtain ⟨hlens, sv, rfl, hsub⟩ := hel
        have Hsub := Lib.hid hsub
        have Hlens := Lib.hid hlens
        obtain ⟨sp, sc, rfl, -⟩ := hsub.form
        have Hbl : Hid (b < wo.heap.size) := Lib.hid (by omega)
        have Hcs := Lib.hid hcs
        have hcs2 : CellsAt wo b (off + k * 11) [.bool x.wild, .string ⟨x.attr.toArray⟩, .bool x.back, .int .i64 x.limit, .bool x.has, .int .i64 x.dflt.kind, .int .i64 x.dflt.n, .string ⟨x.dflt.s.toArray⟩, .bool x.nested, .slice sp x.sub.length sc, .int .i64 x.rc] := hcs
        obtain ⟨x0, x1, x2, x3, x4, x5, x6, x7, x8, x9, x10⟩ := item_cells hcs2
        obtain ⟨iq, hiq⟩ : ∃ iq, iq = (ats.findIdx? (byName x.attr)).isSome := ⟨_, rfl⟩
        have Hiq := Lib.hid hiq
        obtain ⟨wq, hwq⟩ : ∃ wq, wq = x.wild := ⟨_, rfl⟩
        obtain ⟨sq, hsq⟩ : ∃ sq, sq = knownL ats x.sub := ⟨_, rfl⟩
        have Hsq := Lib.hid hsq
        have Hkn : Hid (x.known ats = ((iq || wq) && sq)) := Lib.hid (by rw [It.known_eq, hiq, hwq, hsq])
        have Hwq := Lib.hid hwq
        clear hc hcc hcs hsub e2 hb1 hb2 Hx hiq hwq hsq hlens
        have hB4 := alloc_below wo (.cells #[.bool x.wild, .string ⟨x.attr.toArray⟩, .bool x.back, .int .i64 x.limit, .bool x.has, .int .i64 x.dflt.kind, .int .i64 x.dflt.n, .string ⟨x.dflt.s.toArray⟩, .bool x.nested, .slice sp x.sub.length sc, .int .i64 x.rc] 66)
        have hb4 := Blk.new wo [.bool x.wild, .string ⟨x.attr.toArray⟩, .bool x.back, .int .i64 x.limit, .bool x.has, .int .i64 x.dflt.kind, .int .i64 x.dflt.n, .string ⟨x.dflt.s.toArray⟩, .bool x.nested, .slice sp x.sub.length sc, .int .i64 x.rc] 66 rfl
        go_upto_region 4 with fail
        generalize wo.alloc (.cells #[.bool x.wild, .string ⟨x.attr.toArray⟩, .bool x.back, .int .i64 x.limit, .bool x.has, .int .i64 x.dflt.kind, .int .i64 x.dflt.n, .string ⟨x.dflt.s.toArray⟩, .bool x.nested, .slice sp x.sub.length sc, .int .i64 x.rc] 66) = w4 at *
        obtain ⟨b4, eb4⟩ : ∃ b, b = wo.heap.size := ⟨_, rfl⟩
        rw [← eb4] at hb4 ⊢
        have hz4 := hB4.size
        have HP4 := Lib.hid (HPo.out.below hB4)
        have Hb4 := Lib.hid hb4
        have HB4 := Lib.hid hB4
        clear x0 x1 x2 x3 x4 x5 x6 x7 x8 x9 x10 hB4 eb4 hb4 hcs2
        refine wp_region_held_drew (S := fun w' => Below w4.heap.size w4 w') (by kernel_rfl) (Below.refl _ _).drew (fun hHeld => ?_)
        refine wpAnyH_take (i := 0) (v := .pointer (some ⟨B, 0, none⟩)) rfl (by kernel_rfl) (by kernel_rfl) (by kernel_rfl) (fun _ _ _ h => h) (Or.inl ⟨by rfl, ?_⟩) hHeld ?_
        · intro w' hSw; go_simp
        try simp only [ν1, ν2, ν3, ν4, ν5, ν6, ν7, ν8]
        refine wpAnyH_take (i := 1) (v := .pointer (some ⟨B, 0, none⟩)) rfl (by kernel_rfl) (by kernel_rfl) (by kernel_rfl) (fun _ _ _ h => h) (Or.inl ⟨by rfl, ?_⟩) hHeld ?_
        · intro w' hSw; go_simp
        try simp only [ν1, ν2, ν3, ν4, ν5, ν6, ν7, ν8]
        refine wpAnyH_take (i := 2) (v := .pointer (some ⟨B, 1, none⟩)) rfl (by kernel_rfl) (by kernel_rfl) (by kernel_rfl) (fun _ _ _ h => h) (Or.inl ⟨by rfl, ?_⟩) hHeld ?_
        · intro w' hSw; go_simp
        try simp only [ν1, ν2, ν3, ν4, ν5, ν6, ν7, ν8]
        refine wpAnyH_take (i := 3) (v := .map (some M)) rfl (by kernel_rfl) (by kernel_rfl) (by kernel_rfl) (fun _ _ _ h => h) (Or.inl ⟨by rfl, ?_⟩) hHeld ?_
        · intro w' hSw; have k1 := (HP4.out.below hSw).blk.cells 1 _ rfl; simp only [Nat.zero_add] at k1; go_simp
        try simp only [ν1, ν2, ν3, ν4, ν5, ν6, ν7, ν8]
        refine wpAnyH_take (i := 4) (v := .pointer (some ⟨b4, 1, none⟩)) rfl (by kernel_rfl) (by kernel_rfl) (by kernel_rfl) (fun _ _ _ h => h) (Or.inl ⟨by rfl, ?_⟩) hHeld ?_
        · intro w' hSw; go_simp
        try simp only [ν1, ν2, ν3, ν4, ν5, ν6, ν7, ν8]
        refine wpAnyH_take (i := 5) (v := .string ⟨x.attr.toArray⟩) rfl (by kernel_rfl) (by kernel_rfl) (by kernel_rfl) (fun _ _ _ h => h) (Or.inl ⟨by rfl, ?_⟩) hHeld ?_
        · intro w' hSw; obtain ⟨k0, k1, k2, k3, k4, k5, k6, k7, k8, k9, k10⟩ := item_cells (Hb4.out.below hSw Hb4.out.lt).cells; simp only [Nat.zero_add] at k1; go_simp
        try simp only [ν1, ν2, ν3, ν4, ν5, ν6, ν7, ν8]
        refine wpAnyH_take (i := 6) (v := .tuple #[.int .i64 ((idOf ats x.attr)), .bool iq]) rfl (by kernel_rfl) (by kernel_rfl) (by kernel_rfl) (fun _ _ _ h => h) (Or.inl ⟨by rfl, ?_⟩) hHeld ?_
        · intro w' hSw; have kq := (HP4.out.below hSw).names.look_ok Hlens.out.1; rw [← Hiq.out] at kq; go_simp
        try simp only [ν1, ν2, ν3, ν4, ν5, ν6, ν7, ν8]
        refine wpAnyH_take (i := 7) (v := .tuple #[.int .i64 ((idOf ats x.attr)), .bool iq]) rfl (by kernel_rfl) (by kernel_rfl) (by kernel_rfl) (fun _ _ _ h => h) (Or.inl ⟨by rfl, ?_⟩) hHeld ?_
        · intro w' hSw; go_simp
        try simp only [ν1, ν2, ν3, ν4, ν5, ν6, ν7, ν8]
        refine wpAnyH_take (i := 8) (v := .int .i64 ((idOf ats x.attr))) rfl (by kernel_rfl) (by kernel_rfl) (by kernel_rfl) (fun _ _ _ h => h) (Or.inl ⟨by rfl, ?_⟩) hHeld ?_
        · intro w' hSw; go_simp
        try simp only [ν1, ν2, ν3, ν4, ν5, ν6, ν7, ν8]
        refine wpAnyH_take (i := 9) (v := .bool iq) rfl (by kernel_rfl) (by kernel_rfl) (by kernel_rfl) (fun _ _ _ h => h) (Or.inl ⟨by rfl, ?_⟩) hHeld ?_
        · intro w' hSw; go_simp
        try simp only [ν1, ν2, ν3, ν4, ν5, ν6, ν7, ν8]
        refine wpAnyH_take (i := 10) (v := .int .i64 ((idOf ats x.attr))) rfl (by kernel_rfl) (by kernel_rfl) (by kernel_rfl) (fun _ _ _ h => h) (Or.inl ⟨by rfl, ?_⟩) hHeld ?_
        · intro w' hSw; go_simp
        try simp only [ν1, ν2, ν3, ν4, ν5, ν6, ν7, ν8]
        refine wpAnyH_take (i := 11) (v := .bool iq) rfl (by kernel_rfl) (by kernel_rfl) (by kernel_rfl) (fun _ _ _ h => h) (Or.inl ⟨by rfl, ?_⟩) hHeld ?_
        · intro w' hSw; go_simp
        try simp only [ν1, ν2, ν3, ν4, ν5, ν6, ν7, ν8]
        refine wpAnyH_done (by kernel_rfl) ?_ _
        have hB5 := hHeld
        clear hHeld
        generalize w4.drew = w5 at *
        have hz5 := hB5.size
        have HB5 : Hid (Below wo.heap.size wo w5) := Lib.hid (HB4.out.trans (hB5.mono hz4))
        have HP5 := Lib.hid (HP4.out.below hB5)
        obtain ⟨x0, x1, x2, x3, x4, x5, x6, x7, x8, x9, x10⟩ := item_cells (Hb4.out.below hB5 Hb4.out.lt).cells
        simp only [Nat.zero_add] at x1 x2 x3 x4 x5 x6 x7 x8 x9 x10
        rw [← Hwq.out] at x0
        clear x1 x2 x3 x4 x5 x6 x7 x8 x10 hB5
        cases iq with
        | false =>
          cases wq with
          | false =>
            have hr := HR.out w5 (HB.out.trans (HB5.out.mono hz))
            rw [Hno.out Hkn.out] at hr
            go_wp2_with fail
            all_goals try (rename_i bq h1 h2; exact absurd h1 (undef_ne bq))
            first | exact hr | exact fin hr rfl
          | true =>
            go_wp2_with fail
            refine ih d (by omega) B M hA lo hi lv _ fs ats n x.sub _ w5 HP5.out (Sl.below Hsub.out (itE_loc d) HB5.out Hhi.out) (by have := Hhi.out; omega) _ (fun w6 hB6 => ?_)
            have hz6 := hB6.size
            have HB6 : Hid (Below w.heap.size w w6) := Lib.hid ((HB.out.trans (HB5.out.mono hz)).trans (hB6.mono (by omega)))
            rw [← Hsq.out]
            clear x0 x9 hB6
            cases sq with
            | false =>
              have hr := HR.out w6 HB6.out
              rw [Hno.out Hkn.out] at hr
              go_wp2_with fail
              first | exact hr | exact fin hr rfl
            | true =>
              have Hst2 := Lib.hid (Hst.out Hkn.out)
              go_wp2_with fail
              go_roundw
              case rel => exact ⟨k + 1, by omega, Hst2, by go_num, HB6.out⟩
              case measure => simp [intOf]; omega
        | true =>
          go_wp2_with fail
          refine ih d (by omega) B M hA lo hi lv _ fs ats n x.sub _ w5 HP5.out (Sl.below Hsub.out (itE_loc d) HB5.out Hhi.out) (by have := Hhi.out; omega) _ (fun w6 hB6 => ?_)
          have hz6 := hB6.size
          have HB6 : Hid (Below w.heap.size w w6) := Lib.hid ((HB.out.trans (HB5.out.mono hz)).trans (hB6.mono (by omega)))
          rw [← Hsq.out]
          clear x0 x9 hB6
          cases sq with
          | false =>
            have hr := HR.out w6 HB6.out
            rw [Hno.out Hkn.out] at hr
            go_wp2_with fail
            first | exact hr | exact fin hr rfl
          | true =>
            have Hst2 := Lib.hid (Hst.out Hkn.out)
            go_wp2_with fail
            go_roundw
            case rel => exact ⟨k + 1, by omega, Hst2, by go_num, HB6.out⟩
            case measure => simp [intOf]; omega
    · obtain rfl : k = l.length := by omega
      have llt : ¬ ((l.length : Nat) : Int) < (l.length : Int) := by omega
      have hr := HR.out wo HB.out
      have Hq : Hid (knownL ats l = true) := Lib.hid (by rw [knownL_all, ← Hall.out, List.take_length])
      rw [Hq.out] at hr
      clear hk
      go_wp2_with fail
      first | exact hr | exact fin hr rfl
theorem pKnown_any (d : Nat) : PKnown d := by
  induction d using Nat.strongRecOn with
  | _ d ih => exact pKnown_at d ih
set_option maxRecDepth 100000 in
set_option maxHeartbeats 16000000 in
theorem refKnown_at (d : Nat) (ih : ∀ d', d' < d → RKnown d') : RKnown d := by
  intro B hA lo hi lv av fs ats n l v w hP hv hhi R hR
  have HR := Lib.hid hR
  have HP := Lib.hid hP
  have Hv := Lib.hid hv
  have hl63 := hv.len
  obtain ⟨ao, cv, rfl, -, -, -, -⟩ := hv.form
  obtain ⟨aa, ca, rfl, -, -, -, -⟩ := hP.attrs.form
  have hal63 := hP.attrs.len
  clear hR hP hv
  go_enter Try.func19, Try.ntmps19
  go_wp2_with fail
  go_loopw [5] (fun t5 wr => ∃ (k : Nat), k ≤ l.length ∧ Hid ((l.take k).all (It.known ats) = true) ∧ t5 = .int .i64 k ∧ Below w.heap.size w wr) (fun t5 _ => l.length - (intOf t5).toNat)
  case atStart => exact ⟨0, Nat.zero_le _, Lib.hid (by simp), rfl, Below.refl _ _⟩
  case round =>
    obtain ⟨k, hk, Hall, rfl, hB⟩ := hrel
    obtain ⟨wo, ewo⟩ : ∃ x, x = wr := ⟨_, rfl⟩
    subst ewo
    have HB := Lib.hid hB
    have hz := hB.size
    have HPo := Lib.hid (HP.out.below hB)
    have kk0 : (0 : Int) ≤ (k : Int) := by omega
    clear hB
    by_cases hlt : k < l.length
    · have kkl : (k : Int) < (l.length : Int) := by omega
      have Hx := Lib.hid (Sl.below Hv.out (itE_loc d) HB.out hhi)
      have Hhi : Hid (hi ≤ wo.heap.size) := Lib.hid (by omega)
      obtain ⟨ao', cap', e', -, -, -, hc⟩ := Hx.out.form
      injection e' with e1 e2 e3
      subst e1 e3
      obtain ⟨b, off, rfl, hb1, hb2, hcc⟩ := hc k hlt
      obtain ⟨cs, -, hcs, hel⟩ := hcc k hlt
      have Hno : Hid (l[k].known ats = false → knownL ats l = false) := Lib.hid (known_no hlt)
      have Hst : Hid (l[k].known ats = true → (l.take (k + 1)).all (It.known ats) = true) := Lib.hid (known_step hlt Hall.out)
      generalize l[k] = x at *
      cases d with
      | zero => exact hel.elim
      | succ d =>
        obtain ⟨hlens, sv, rfl, hsub⟩ := hel
        have Hsub := Lib.hid hsub
        have Hlens := Lib.hid hlens
        obtain ⟨sp, sc, rfl, -⟩ := hsub.form
        have Hbl : Hid (b < wo.heap.size) := Lib.hid (by omega)
        have Hcs := Lib.hid hcs
        have hcs2 : CellsAt wo b (off + k * 11) [.bool x.wild, .string ⟨x.attr.toArray⟩, .bool x.back, .int .i64 x.limit, .bool x.has, .int .i64 x.dflt.kind, .int .i64 x.dflt.n, .string ⟨x.dflt.s.toArray⟩, .bool x.nested, .slice sp x.sub.length sc, .int .i64 x.rc] := hcs
        obtain ⟨x0, x1, x2, x3, x4, x5, x6, x7, x8, x9, x10⟩ := item_cells hcs2
        obtain ⟨iq, hiq⟩ : ∃ iq, iq = (ats.findIdx? (byName x.attr)).isSome := ⟨_, rfl⟩
        have Hiq := Lib.hid hiq
        obtain ⟨wq, hwq⟩ : ∃ wq, wq = x.wild := ⟨_, rfl⟩
        obtain ⟨sq, hsq⟩ : ∃ sq, sq = knownL ats x.sub := ⟨_, rfl⟩
        have Hsq := Lib.hid hsq
        have Hkn : Hid (x.known ats = ((iq || wq) && sq)) := Lib.hid (by rw [It.known_eq, hiq, hwq, hsq])
        have Hwq := Lib.hid hwq
        clear hc hcc hcs hsub e2 hb1 hb2 Hx hiq hwq hsq hlens
        obtain ⟨A, hA2⟩ : ∃ A, A = findA ats (ats.findIdx? (byName x.attr)) := ⟨_, rfl⟩
        have HA := Lib.hid hA2
        clear hA2 hcs2 x0 x1 x2 x3 x4 x5 x6 x7 x8 x9 x10
        go_upto_region 4 with fail
        refine region_meet (ι := Nat) (fun b7 => [(15, .pointer (some ⟨B, 0, none⟩)), (16, .pointer (some ⟨B, 0, none⟩)), (17, .pointer (some ⟨B, 1, none⟩)), (18, .slice aa ats.length ca), (19, .slice (some ⟨b, off, none⟩) l.length cv), (20, .int .i64 ((k : Int))), (21, .pointer (some ⟨b, off + k * 11, none⟩)), (22, .pointer (some ⟨b, off + k * 11 + 1, none⟩)), (23, .string ⟨x.attr.toArray⟩), (24, .tuple #[.agg #[.int .i64 A.id, .string ⟨A.name.toArray⟩, .int .i64 A.type, .bool A.many, .int .i64 A.unique, .bool A.part, .bool A.index], .bool iq]), (14, .tuple #[.agg #[.int .i64 A.id, .string ⟨A.name.toArray⟩, .int .i64 A.type, .bool A.many, .int .i64 A.unique, .bool A.part, .bool A.index], .bool iq]), (25, .agg #[.int .i64 A.id, .string ⟨A.name.toArray⟩, .int .i64 A.type, .bool A.many, .int .i64 A.unique, .bool A.part, .bool A.index]), (26, .bool iq), (6, .pointer (some ⟨b7, 0, none⟩)), (7, .bool iq)]) (fun b7 w' => Below wo.heap.size wo w' ∧ Blk w' b7 [.int .i64 A.id, .string ⟨A.name.toArray⟩, .int .i64 A.type, .bool A.many, .int .i64 A.unique, .bool A.part, .bool A.index] 28) ?_ ?_
        · refine wp_region_held_drew (S := fun w' => Below wo.heap.size wo w') (by kernel_rfl) (Below.refl _ _).drew (fun hHeld => ?_)
          refine wpAnyH_take (i := 0) (v := .pointer (some ⟨B, 0, none⟩)) rfl (by kernel_rfl) (by kernel_rfl) (by kernel_rfl) (fun _ _ _ h => h) (Or.inl ⟨by rfl, ?_⟩) hHeld ?_
          · intro w' hSw; go_simp
          try simp only [ν1, ν2, ν3, ν4, ν5, ν6, ν7, ν8]
          refine wpAnyH_take (i := 1) (v := .pointer (some ⟨B, 0, none⟩)) rfl (by kernel_rfl) (by kernel_rfl) (by kernel_rfl) (fun _ _ _ h => h) (Or.inl ⟨by rfl, ?_⟩) hHeld ?_
          · intro w' hSw; go_simp
          try simp only [ν1, ν2, ν3, ν4, ν5, ν6, ν7, ν8]
          refine wpAnyH_take (i := 2) (v := .pointer (some ⟨B, 1, none⟩)) rfl (by kernel_rfl) (by kernel_rfl) (by kernel_rfl) (fun _ _ _ h => h) (Or.inl ⟨by rfl, ?_⟩) hHeld ?_
          · intro w' hSw; go_simp
          try simp only [ν1, ν2, ν3, ν4, ν5, ν6, ν7, ν8]
          refine wpAnyH_take (i := 3) (v := .slice aa ats.length ca) rfl (by kernel_rfl) (by kernel_rfl) (by kernel_rfl) (fun _ _ _ h => h) (Or.inl ⟨by rfl, ?_⟩) hHeld ?_
          · intro w' hSw; have kc := (HPo.out.below hSw).blk.cells; have k1 := kc 1 _ rfl; simp only [Nat.zero_add] at k1; go_simp
          try simp only [ν1, ν2, ν3, ν4, ν5, ν6, ν7, ν8]
          refine wpAnyH_take (i := 4) (v := .slice (some ⟨b, off, none⟩) l.length cv) rfl (by kernel_rfl) (by kernel_rfl) (by kernel_rfl) (fun _ _ _ h => h) (Or.inl ⟨by rfl, ?_⟩) hHeld ?_
          · intro w' hSw; go_simp
          try simp only [ν1, ν2, ν3, ν4, ν5, ν6, ν7, ν8]
          refine wpAnyH_take (i := 5) (v := .int .i64 ((k : Int))) rfl (by kernel_rfl) (by kernel_rfl) (by kernel_rfl) (fun _ _ _ h => h) (Or.inl ⟨by rfl, ?_⟩) hHeld ?_
          · intro w' hSw; go_simp
          try simp only [ν1, ν2, ν3, ν4, ν5, ν6, ν7, ν8]
          refine wpAnyH_take (i := 6) (v := .pointer (some ⟨b, off + k * 11, none⟩)) rfl (by kernel_rfl) (by kernel_rfl) (by kernel_rfl) (fun _ _ _ h => h) (Or.inl ⟨by rfl, ?_⟩) hHeld ?_
          · intro w' hSw; go_simp
          try simp only [ν1, ν2, ν3, ν4, ν5, ν6, ν7, ν8]
          refine wpAnyH_take (i := 7) (v := .pointer (some ⟨b, off + k * 11 + 1, none⟩)) rfl (by kernel_rfl) (by kernel_rfl) (by kernel_rfl) (fun _ _ _ h => h) (Or.inl ⟨by rfl, ?_⟩) hHeld ?_
          · intro w' hSw; go_simp
          try simp only [ν1, ν2, ν3, ν4, ν5, ν6, ν7, ν8]
          refine wpAnyH_take (i := 8) (v := .string ⟨x.attr.toArray⟩) rfl (by kernel_rfl) (by kernel_rfl) (by kernel_rfl) (fun _ _ _ h => h) (Or.inl ⟨by rfl, ?_⟩) hHeld ?_
          · intro w' hSw; have kc := Hcs.out.agree (.below hSw (Nat.le_refl _)) (Nat.zero_le _) Hbl.out; obtain ⟨k0, k1, k2, k3, k4, k5, k6, k7, k8, k9, k10⟩ := item_cells kc; go_simp
          try simp only [ν1, ν2, ν3, ν4, ν5, ν6, ν7, ν8]
          refine wpAnyH_ready (rs := [9, 13]) (by kernel_rfl) (by simp) ?_
          refine allCall (f := 18) (args := #[.slice aa ats.length ca, .string ⟨x.attr.toArray⟩]) rfl (by kernel_rfl) (by kernel_rfl) ?_ ?_
          · refine refByName_any (B + 1) hA _ ats x.attr wo.drew (Sl.below HPo.out.attrs Attrs.loc hHeld HPo.out.le) (Nat.le_trans HPo.out.le hHeld.size) _ (fun wm1  hB => ?_)
            rw [← HA.out, ← Hiq.out]
            refine ⟨_, rfl, hHeld.trans (hB.mono hHeld.size), ?_⟩
            have hHeld2 := hHeld.trans (hB.mono hHeld.size)
            clear hHeld
            have hHeld := hHeld2
            clear hHeld2 hB
            try simp only [ν1, ν2, ν3, ν4, ν5, ν6, ν7, ν8]
            refine wpAnyH_take (i := 10) (v := .tuple #[.agg #[.int .i64 A.id, .string ⟨A.name.toArray⟩, .int .i64 A.type, .bool A.many, .int .i64 A.unique, .bool A.part, .bool A.index], .bool iq]) rfl (by kernel_rfl) (by kernel_rfl) (by kernel_rfl) (fun _ _ _ h => h) (Or.inl ⟨by rfl, ?_⟩) hHeld ?_
            · intro w' hSw; go_simp
            try simp only [ν1, ν2, ν3, ν4, ν5, ν6, ν7, ν8]
            refine wpAnyH_take (i := 11) (v := .agg #[.int .i64 A.id, .string ⟨A.name.toArray⟩, .int .i64 A.type, .bool A.many, .int .i64 A.unique, .bool A.part, .bool A.index]) rfl (by kernel_rfl) (by kernel_rfl) (by kernel_rfl) (fun _ _ _ h => h) (Or.inl ⟨by rfl, ?_⟩) hHeld ?_
            · intro w' hSw; go_simp
            try simp only [ν1, ν2, ν3, ν4, ν5, ν6, ν7, ν8]
            refine wpAnyH_take (i := 12) (v := .bool iq) rfl (by kernel_rfl) (by kernel_rfl) (by kernel_rfl) (fun _ _ _ h => h) (Or.inl ⟨by rfl, ?_⟩) hHeld ?_
            · intro w' hSw; go_simp
            try simp only [ν1, ν2, ν3, ν4, ν5, ν6, ν7, ν8]
            refine wpAnyH_ready (rs := [13]) (by kernel_rfl) (by simp) ?_
            refine allVal (v := .pointer (some ⟨wm1.heap.size, 0, none⟩)) (w' := wm1.alloc (.cells #[.int .i64 0, .string ⟨#[]⟩, .int .i64 0, .bool false, .int .i64 0, .bool false, .bool false] 28)) rfl (by kernel_rfl) (by go_simp) (hHeld.trans ((alloc_below wm1 (.cells #[.int .i64 0, .string ⟨#[]⟩, .int .i64 0, .bool false, .int .i64 0, .bool false, .bool false] 28)).mono hHeld.size)) ?_ AllReadyH.nil
            have hB := alloc_below wm1 (.cells #[.int .i64 0, .string ⟨#[]⟩, .int .i64 0, .bool false, .int .i64 0, .bool false, .bool false] 28)
            have hbn := Blk.new wm1 [.int .i64 0, .string ⟨#[]⟩, .int .i64 0, .bool false, .int .i64 0, .bool false, .bool false] 28 rfl
            have hbkl := hHeld.size
            generalize wm1.alloc (.cells #[.int .i64 0, .string ⟨#[]⟩, .int .i64 0, .bool false, .int .i64 0, .bool false, .bool false] 28) = wm2 at *
            obtain ⟨b7, eb⟩ : ∃ b, b = wm1.heap.size := ⟨_, rfl⟩
            rw [← eb] at hbn hbkl ⊢
            clear eb
            have hHeld2 := hHeld.trans (hB.mono hHeld.size)
            clear hHeld
            have hHeld := hHeld2
            clear hHeld2 hB
            have hbk := hbn
            clear hbn
            try simp only [ν1, ν2, ν3, ν4, ν5, ν6, ν7, ν8]
            refine wpAnyH_ready (rs := [14]) (by kernel_rfl) (by simp) ?_
            have zc := hbk.cells
            have z0 := zc 0 _ rfl
            have z1 := zc 1 _ rfl
            have z2 := zc 2 _ rfl
            have z3 := zc 3 _ rfl
            have z4 := zc 4 _ rfl
            have z5 := zc 5 _ rfl
            have z6 := zc 6 _ rfl
            simp only [Nat.zero_add] at z0 z1 z2 z3 z4 z5 z6
            have zl := hbk.lt
            have zf0 := hbk.free 0
            have zf1 := hbk.free 1
            have zf2 := hbk.free 2
            have zf3 := hbk.free 3
            have zf4 := hbk.free 4
            have zf5 := hbk.free 5
            have zf6 := hbk.free 6
            refine allSkip (w' := (((((((wm2.setCell ⟨b7, 0, none⟩ (.int .i64 A.id)).setCell ⟨b7, 1, none⟩ (.string ⟨A.name.toArray⟩)).setCell ⟨b7, 2, none⟩ (.int .i64 A.type)).setCell ⟨b7, 3, none⟩ (.bool A.many)).setCell ⟨b7, 4, none⟩ (.int .i64 A.unique)).setCell ⟨b7, 5, none⟩ (.bool A.part)).setCell ⟨b7, 6, none⟩ (.bool A.index))) rfl (by kernel_rfl) (by go_simp) (((((((hHeld.setCell (p := ⟨b7, 0, none⟩) hbkl (.int .i64 A.id)).setCell (p := ⟨b7, 1, none⟩) hbkl (.string ⟨A.name.toArray⟩)).setCell (p := ⟨b7, 2, none⟩) hbkl (.int .i64 A.type)).setCell (p := ⟨b7, 3, none⟩) hbkl (.bool A.many)).setCell (p := ⟨b7, 4, none⟩) hbkl (.int .i64 A.unique)).setCell (p := ⟨b7, 5, none⟩) hbkl (.bool A.part)).setCell (p := ⟨b7, 6, none⟩) hbkl (.bool A.index)) ?_ AllReadyH.nil
            have hHeld2 := (((((((hHeld.setCell (p := ⟨b7, 0, none⟩) hbkl (.int .i64 A.id)).setCell (p := ⟨b7, 1, none⟩) hbkl (.string ⟨A.name.toArray⟩)).setCell (p := ⟨b7, 2, none⟩) hbkl (.int .i64 A.type)).setCell (p := ⟨b7, 3, none⟩) hbkl (.bool A.many)).setCell (p := ⟨b7, 4, none⟩) hbkl (.int .i64 A.unique)).setCell (p := ⟨b7, 5, none⟩) hbkl (.bool A.part)).setCell (p := ⟨b7, 6, none⟩) hbkl (.bool A.index))
            have hbn : Blk (((((((wm2.setCell ⟨b7, 0, none⟩ (.int .i64 A.id)).setCell ⟨b7, 1, none⟩ (.string ⟨A.name.toArray⟩)).setCell ⟨b7, 2, none⟩ (.int .i64 A.type)).setCell ⟨b7, 3, none⟩ (.bool A.many)).setCell ⟨b7, 4, none⟩ (.int .i64 A.unique)).setCell ⟨b7, 5, none⟩ (.bool A.part)).setCell ⟨b7, 6, none⟩ (.bool A.index)) b7 [.int .i64 A.id, .string ⟨A.name.toArray⟩, .int .i64 A.type, .bool A.many, .int .i64 A.unique, .bool A.part, .bool A.index] 28 := (((((((hbk.set 0 (.int .i64 A.id)).set 1 (.string ⟨A.name.toArray⟩)).set 2 (.int .i64 A.type)).set 3 (.bool A.many)).set 4 (.int .i64 A.unique)).set 5 (.bool A.part)).set 6 (.bool A.index))
            clear hHeld hbk zc zl z0 z1 z2 z3 z4 z5 z6 zf0 zf1 zf2 zf3 zf4 zf5 zf6
            have hHeld := hHeld2
            have hbk := hbn
            clear hHeld2 hbn
            generalize (((((((wm2.setCell ⟨b7, 0, none⟩ (.int .i64 A.id)).setCell ⟨b7, 1, none⟩ (.string ⟨A.name.toArray⟩)).setCell ⟨b7, 2, none⟩ (.int .i64 A.type)).setCell ⟨b7, 3, none⟩ (.bool A.many)).setCell ⟨b7, 4, none⟩ (.int .i64 A.unique)).setCell ⟨b7, 5, none⟩ (.bool A.part)).setCell ⟨b7, 6, none⟩ (.bool A.index)) = wm3 at *
            try simp only [ν1, ν2, ν3, ν4, ν5, ν6, ν7, ν8]
            refine wpAnyH_take (i := 15) (v := .bool iq) rfl (by kernel_rfl) (by kernel_rfl) (by kernel_rfl) (fun _ _ _ h => h) (Or.inl ⟨by rfl, ?_⟩) hHeld ?_
            · intro w' hSw; go_simp
            try simp only [ν1, ν2, ν3, ν4, ν5, ν6, ν7, ν8]
            refine wpAnyH_done (by kernel_rfl) ?_ _
            exact ⟨b7, by kernel_rfl, ⟨hHeld, hbk⟩⟩
          refine allVal (v := .pointer (some ⟨wo.drew.heap.size, 0, none⟩)) (w' := wo.drew.alloc (.cells #[.int .i64 0, .string ⟨#[]⟩, .int .i64 0, .bool false, .int .i64 0, .bool false, .bool false] 28)) rfl (by kernel_rfl) (by go_simp) (hHeld.trans ((alloc_below wo.drew (.cells #[.int .i64 0, .string ⟨#[]⟩, .int .i64 0, .bool false, .int .i64 0, .bool false, .bool false] 28)).mono hHeld.size)) ?_ AllReadyH.nil
          have hB := alloc_below wo.drew (.cells #[.int .i64 0, .string ⟨#[]⟩, .int .i64 0, .bool false, .int .i64 0, .bool false, .bool false] 28)
          have hbn := Blk.new wo.drew [.int .i64 0, .string ⟨#[]⟩, .int .i64 0, .bool false, .int .i64 0, .bool false, .bool false] 28 rfl
          have hbkl := hHeld.size
          generalize wo.drew.alloc (.cells #[.int .i64 0, .string ⟨#[]⟩, .int .i64 0, .bool false, .int .i64 0, .bool false, .bool false] 28) = wm4 at *
          obtain ⟨b7, eb⟩ : ∃ b, b = wo.drew.heap.size := ⟨_, rfl⟩
          rw [← eb] at hbn hbkl ⊢
          clear eb
          have hHeld2 := hHeld.trans (hB.mono hHeld.size)
          clear hHeld
          have hHeld := hHeld2
          clear hHeld2 hB
          have hbk := hbn
          clear hbn
          try simp only [ν1, ν2, ν3, ν4, ν5, ν6, ν7, ν8]
          refine wpAnyH_ready (rs := [9]) (by kernel_rfl) (by simp) ?_
          refine allCall (f := 18) (args := #[.slice aa ats.length ca, .string ⟨x.attr.toArray⟩]) rfl (by kernel_rfl) (by kernel_rfl) ?_ AllReadyH.nil
          refine refByName_any (B + 1) hA _ ats x.attr wm4 (Sl.below HPo.out.attrs Attrs.loc hHeld HPo.out.le) (Nat.le_trans HPo.out.le hHeld.size) _ (fun wm5  hB => ?_)
          rw [← HA.out, ← Hiq.out]
          refine ⟨_, rfl, hHeld.trans (hB.mono hHeld.size), ?_⟩
          replace hbk := hbk.below hB hbk.lt
          have hHeld2 := hHeld.trans (hB.mono hHeld.size)
          clear hHeld
          have hHeld := hHeld2
          clear hHeld2 hB
          try simp only [ν1, ν2, ν3, ν4, ν5, ν6, ν7, ν8]
          refine wpAnyH_take (i := 10) (v := .tuple #[.agg #[.int .i64 A.id, .string ⟨A.name.toArray⟩, .int .i64 A.type, .bool A.many, .int .i64 A.unique, .bool A.part, .bool A.index], .bool iq]) rfl (by kernel_rfl) (by kernel_rfl) (by kernel_rfl) (fun _ _ _ h => h) (Or.inl ⟨by rfl, ?_⟩) hHeld ?_
          · intro w' hSw; go_simp
          try simp only [ν1, ν2, ν3, ν4, ν5, ν6, ν7, ν8]
          refine wpAnyH_take (i := 11) (v := .agg #[.int .i64 A.id, .string ⟨A.name.toArray⟩, .int .i64 A.type, .bool A.many, .int .i64 A.unique, .bool A.part, .bool A.index]) rfl (by kernel_rfl) (by kernel_rfl) (by kernel_rfl) (fun _ _ _ h => h) (Or.inl ⟨by rfl, ?_⟩) hHeld ?_
          · intro w' hSw; go_simp
          try simp only [ν1, ν2, ν3, ν4, ν5, ν6, ν7, ν8]
          refine wpAnyH_take (i := 12) (v := .bool iq) rfl (by kernel_rfl) (by kernel_rfl) (by kernel_rfl) (fun _ _ _ h => h) (Or.inl ⟨by rfl, ?_⟩) hHeld ?_
          · intro w' hSw; go_simp
          try simp only [ν1, ν2, ν3, ν4, ν5, ν6, ν7, ν8]
          refine wpAnyH_ready (rs := [14]) (by kernel_rfl) (by simp) ?_
          have zc := hbk.cells
          have z0 := zc 0 _ rfl
          have z1 := zc 1 _ rfl
          have z2 := zc 2 _ rfl
          have z3 := zc 3 _ rfl
          have z4 := zc 4 _ rfl
          have z5 := zc 5 _ rfl
          have z6 := zc 6 _ rfl
          simp only [Nat.zero_add] at z0 z1 z2 z3 z4 z5 z6
          have zl := hbk.lt
          have zf0 := hbk.free 0
          have zf1 := hbk.free 1
          have zf2 := hbk.free 2
          have zf3 := hbk.free 3
          have zf4 := hbk.free 4
          have zf5 := hbk.free 5
          have zf6 := hbk.free 6
          refine allSkip (w' := (((((((wm5.setCell ⟨b7, 0, none⟩ (.int .i64 A.id)).setCell ⟨b7, 1, none⟩ (.string ⟨A.name.toArray⟩)).setCell ⟨b7, 2, none⟩ (.int .i64 A.type)).setCell ⟨b7, 3, none⟩ (.bool A.many)).setCell ⟨b7, 4, none⟩ (.int .i64 A.unique)).setCell ⟨b7, 5, none⟩ (.bool A.part)).setCell ⟨b7, 6, none⟩ (.bool A.index))) rfl (by kernel_rfl) (by go_simp) (((((((hHeld.setCell (p := ⟨b7, 0, none⟩) hbkl (.int .i64 A.id)).setCell (p := ⟨b7, 1, none⟩) hbkl (.string ⟨A.name.toArray⟩)).setCell (p := ⟨b7, 2, none⟩) hbkl (.int .i64 A.type)).setCell (p := ⟨b7, 3, none⟩) hbkl (.bool A.many)).setCell (p := ⟨b7, 4, none⟩) hbkl (.int .i64 A.unique)).setCell (p := ⟨b7, 5, none⟩) hbkl (.bool A.part)).setCell (p := ⟨b7, 6, none⟩) hbkl (.bool A.index)) ?_ AllReadyH.nil
          have hHeld2 := (((((((hHeld.setCell (p := ⟨b7, 0, none⟩) hbkl (.int .i64 A.id)).setCell (p := ⟨b7, 1, none⟩) hbkl (.string ⟨A.name.toArray⟩)).setCell (p := ⟨b7, 2, none⟩) hbkl (.int .i64 A.type)).setCell (p := ⟨b7, 3, none⟩) hbkl (.bool A.many)).setCell (p := ⟨b7, 4, none⟩) hbkl (.int .i64 A.unique)).setCell (p := ⟨b7, 5, none⟩) hbkl (.bool A.part)).setCell (p := ⟨b7, 6, none⟩) hbkl (.bool A.index))
          have hbn : Blk (((((((wm5.setCell ⟨b7, 0, none⟩ (.int .i64 A.id)).setCell ⟨b7, 1, none⟩ (.string ⟨A.name.toArray⟩)).setCell ⟨b7, 2, none⟩ (.int .i64 A.type)).setCell ⟨b7, 3, none⟩ (.bool A.many)).setCell ⟨b7, 4, none⟩ (.int .i64 A.unique)).setCell ⟨b7, 5, none⟩ (.bool A.part)).setCell ⟨b7, 6, none⟩ (.bool A.index)) b7 [.int .i64 A.id, .string ⟨A.name.toArray⟩, .int .i64 A.type, .bool A.many, .int .i64 A.unique, .bool A.part, .bool A.index] 28 := (((((((hbk.set 0 (.int .i64 A.id)).set 1 (.string ⟨A.name.toArray⟩)).set 2 (.int .i64 A.type)).set 3 (.bool A.many)).set 4 (.int .i64 A.unique)).set 5 (.bool A.part)).set 6 (.bool A.index))
          clear hHeld hbk zc zl z0 z1 z2 z3 z4 z5 z6 zf0 zf1 zf2 zf3 zf4 zf5 zf6
          have hHeld := hHeld2
          have hbk := hbn
          clear hHeld2 hbn
          generalize (((((((wm5.setCell ⟨b7, 0, none⟩ (.int .i64 A.id)).setCell ⟨b7, 1, none⟩ (.string ⟨A.name.toArray⟩)).setCell ⟨b7, 2, none⟩ (.int .i64 A.type)).setCell ⟨b7, 3, none⟩ (.bool A.many)).setCell ⟨b7, 4, none⟩ (.int .i64 A.unique)).setCell ⟨b7, 5, none⟩ (.bool A.part)).setCell ⟨b7, 6, none⟩ (.bool A.index)) = wm6 at *
          try simp only [ν1, ν2, ν3, ν4, ν5, ν6, ν7, ν8]
          refine wpAnyH_take (i := 15) (v := .bool iq) rfl (by kernel_rfl) (by kernel_rfl) (by kernel_rfl) (fun _ _ _ h => h) (Or.inl ⟨by rfl, ?_⟩) hHeld ?_
          · intro w' hSw; go_simp
          try simp only [ν1, ν2, ν3, ν4, ν5, ν6, ν7, ν8]
          refine wpAnyH_done (by kernel_rfl) ?_ _
          exact ⟨b7, by kernel_rfl, ⟨hHeld, hbk⟩⟩
        rintro b7 wz ⟨hB, hbk⟩
        simp only [List.foldl_cons, List.foldl_nil]
        try simp only [ν1, ν2, ν3, ν4, ν5, ν6, ν7, ν8]
        have hz5 := hB.size
        have HB5 := Lib.hid hB
        have HP5 := Lib.hid (HPo.out.below hB)
        obtain ⟨x0, x1, x2, x3, x4, x5, x6, x7, x8, x9, x10⟩ := item_cells (Hcs.out.agree (.below hB (Nat.le_refl _)) (Nat.zero_le _) Hbl.out)
        rw [← Hwq.out] at x0
        clear x1 x2 x3 x4 x5 x6 x7 x8 x10 hB hbk
        obtain ⟨w5, ew5⟩ : ∃ x, x = wz := ⟨_, rfl⟩
        subst ew5
        cases iq with
        | false =>
          cases wq with
          | false =>
            have hr := HR.out w5 (HB.out.trans (HB5.out.mono hz))
            rw [Hno.out Hkn.out] at hr
            go_wp2_with fail
            all_goals try (rename_i bq h1 h2; exact absurd h1 (undef_ne bq))
            first | exact hr | exact fin hr rfl
          | true =>
            go_wp2_with fail
            refine ih d (by omega) B hA lo hi lv _ fs ats n x.sub _ w5 HP5.out (Sl.below Hsub.out (itE_loc d) HB5.out Hhi.out) (by have := Hhi.out; omega) _ (fun w6 hB6 => ?_)
            have hz6 := hB6.size
            have HB6 : Hid (Below w.heap.size w w6) := Lib.hid ((HB.out.trans (HB5.out.mono hz)).trans (hB6.mono (by omega)))
            rw [← Hsq.out]
            clear x0 x9 hB6
            cases sq with
            | false =>
              have hr := HR.out w6 HB6.out
              rw [Hno.out Hkn.out] at hr
              go_wp2_with fail
              first | exact hr | exact fin hr rfl
            | true =>
              have Hst2 := Lib.hid (Hst.out Hkn.out)
              go_wp2_with fail
              go_roundw
              case rel => exact ⟨k + 1, by omega, Hst2, by go_num, HB6.out⟩
              case measure => simp [intOf]; omega
        | true =>
          go_wp2_with fail
          refine ih d (by omega) B hA lo hi lv _ fs ats n x.sub _ w5 HP5.out (Sl.below Hsub.out (itE_loc d) HB5.out Hhi.out) (by have := Hhi.out; omega) _ (fun w6 hB6 => ?_)
          have hz6 := hB6.size
          have HB6 : Hid (Below w.heap.size w w6) := Lib.hid ((HB.out.trans (HB5.out.mono hz)).trans (hB6.mono (by omega)))
          rw [← Hsq.out]
          clear x0 x9 hB6
          cases sq with
          | false =>
            have hr := HR.out w6 HB6.out
            rw [Hno.out Hkn.out] at hr
            go_wp2_with fail
            first | exact hr | exact fin hr rfl
          | true =>
            have Hst2 := Lib.hid (Hst.out Hkn.out)
            go_wp2_with fail
            go_roundw
            case rel => exact ⟨k + 1, by omega, Hst2, by go_num, HB6.out⟩
            case measure => simp [intOf]; omega
    · obtain rfl : k = l.length := by omega
      have llt : ¬ ((l.length : Nat) : Int) < (l.length : Int) := by omega
      have hr := HR.out wo HB.out
      have Hq : Hid (knownL ats l = true) := Lib.hid (by rw [knownL_all, ← Hall.out, List.take_length])
      rw [Hq.out] at hr
      clear hk
      go_wp2_with fail
      first | exact hr | exact fin hr rfl
theorem refKnown_any (d : Nat) : RKnown d := by
  induction d using Nat.strongRecOn with
  | _ d ih => exact refKnown_at d ih
end Go.Proofs.Yticbhfmpnmolcaa
end

/- May facts be? The code's and the document's answers. (Printed by schb.py.) -/
section
set_option linter.unusedVariables false
set_option linter.unusedSimpArgs false
namespace Go.Proofs.Yticbhfmpnmolcaa
open Go.RowKit
set_option linter.unusedVariables false
set_option linter.unusedSimpArgs false

theorem may_false1 {x : Ft} (h : mayD x.e x.a x.v = false) : x.may = false := by unfold Ft.may; rw [h]; rfl
theorem may_false2 {x : Ft} (h : x.sp.length = 0) : x.may = false := by
  unfold Ft.may
  rw [List.eq_nil_of_length_eq_zero h, show (!([] : List Sp).isEmpty) = false from rfl, Bool.and_false, Bool.false_and]
theorem may_set {x : Ft} (h : mayD x.e x.a x.v = true) (hl : 0 < x.sp.length) : x.may = setB x.sp := by
  unfold Ft.may
  have e : x.sp.isEmpty = false := by
    cases hs : x.sp with
    | nil => rw [hs] at hl; simp at hl
    | cons a b => rfl
  rw [h, e]
  simp
set_option maxRecDepth 100000 in
set_option maxHeartbeats 2000000 in
theorem fmay_any (lo hi : Nat) (x : Ft) (sv : Value) (w : World) (hs : Spans lo hi w sv x.sp) (hhi : hi ≤ w.heap.size) (hl : x.v.s.length ≤ 9223372036854775807) (R : Ending → World → Prop) (hR : ∀ w', Below w.heap.size w w' → R (.returned (.bool x.may)) w') :
    Calls Try.prog 39 #[.agg #[.int .i64 x.e, .int .i64 x.a, .int .i64 x.v.kind, .int .i64 x.v.n, .string ⟨x.v.s.toArray⟩, sv]] w R := by
  have HR := Lib.hid hR
  have Hs := Lib.hid hs
  obtain ⟨ao, cap, rfl, -, -, -, -⟩ := hs.form
  clear hR hs
  have hB1 := alloc_below w (.cells #[.int .i64 x.e, .int .i64 x.a, .int .i64 x.v.kind, .int .i64 x.v.n, .string ⟨x.v.s.toArray⟩, .slice ao x.sp.length cap] 42)
  have hb := Blk.new w [.int .i64 x.e, .int .i64 x.a, .int .i64 x.v.kind, .int .i64 x.v.n, .string ⟨x.v.s.toArray⟩, .slice ao x.sp.length cap] 42 rfl
  go_enter Try.func39, Try.ntmps39
  go_upto_region 1 with fail
  generalize w.alloc (.cells #[.int .i64 x.e, .int .i64 x.a, .int .i64 x.v.kind, .int .i64 x.v.n, .string ⟨x.v.s.toArray⟩, .slice ao x.sp.length cap] 42) = w1 at *
  obtain ⟨y0, y1, y2, y3, y4, y5⟩ := hb.cells.f6
  have hb1 := hb.lt
  have hB2 := alloc_below w1 (.cells #[.int .i64 x.e, .int .i64 x.a, .int .i64 x.v.kind, .int .i64 x.v.n, .string ⟨x.v.s.toArray⟩, .int .i64 1, .bool false, .int .i64 0, .int .i64 1] 74)
  have hd := Blk.new w1 [.int .i64 x.e, .int .i64 x.a, .int .i64 x.v.kind, .int .i64 x.v.n, .string ⟨x.v.s.toArray⟩, .int .i64 1, .bool false, .int .i64 0, .int .i64 1] 74 rfl
  go_upto_region 2 with fail
  generalize w1.alloc (.cells #[.int .i64 x.e, .int .i64 x.a, .int .i64 x.v.kind, .int .i64 x.v.n, .string ⟨x.v.s.toArray⟩, .int .i64 1, .bool false, .int .i64 0, .int .i64 1] 74) = w2 at *
  obtain ⟨d0, d1, d2, d3, d4, d5, d6, d7, d8⟩ := hd.cells.c9
  clear y0 y1 y2 y3 y4 y5
  have hb2 := hb.below hB2 hb1
  have HB2 := Lib.hid (hB1.trans (hB2.mono hB1.size))
  clear hd hB2 hB1 hb
  go_wp2_with fail
  refine dCheck_any x.e x.a x.v w2 hl _ (fun w3 hB3 => ?_)
  obtain ⟨y0, y1, y2, y3, y4, y5⟩ := (hb2.below hB3 hb2.lt).cells.f6
  have hB := HB2.out.trans (hB3.mono HB2.out.size)
  clear d0 d1 d2 d3 d4 d5 d6 d7 d8 hB3 hb2
  cases hm : mayD x.e x.a x.v
  · have hr := HR.out w3 hB
    rw [may_false1 hm] at hr
    clear hB
    go_wp2_with fail
    first | exact hr | exact fin hr rfl
  by_cases h0 : x.sp.length = 0
  · have hr := HR.out w3 hB
    rw [may_false2 h0] at hr
    have k0 : ¬ (0 : Int) < (x.sp.length : Int) := by omega
    clear hB
    go_wp2_with fail
    first | exact hr | exact fin hr rfl
  have k0 : (0 : Int) < (x.sp.length : Int) := by omega
  have hr := fun w4 (h : Below w3.heap.size w3 w4) => HR.out w4 (hB.trans (h.mono hB.size))
  rw [may_set hm (by omega)] at hr
  have Hr := Lib.hid hr
  have Hs3 := Lib.hid (Sl.below Hs.out Sp.loc hB hhi)
  have hh3 : hi ≤ w3.heap.size := Nat.le_trans hhi hB.size
  clear hr hB h0
  go_wp2_with fail
  refine spanCheck_any lo hi _ _ w3 Hs3.out hh3 _ (fun w4 hB4 => ?_)
  have hr := Hr.out w4 hB4
  clear hB4
  cases hq : setB x.sp
  · rw [hq] at hr
    go_wp2_with fail
    first | exact hr | exact fin hr rfl
  · rw [hq] at hr
    go_wp2_with fail
    first | exact hr | exact fin hr rfl
set_option maxRecDepth 100000 in
set_option maxHeartbeats 4000000 in
theorem fcompare_any (x y : Ft) (sv tv : Value) (w : World) (R : Ending → World → Prop) (hR : ∀ w', Below w.heap.size w w' → R (.returned (.int .i64 (cmpF x y))) w') :
    Calls Try.prog 40 #[.agg #[.int .i64 x.e, .int .i64 x.a, .int .i64 x.v.kind, .int .i64 x.v.n, .string ⟨x.v.s.toArray⟩, sv], .agg #[.int .i64 y.e, .int .i64 y.a, .int .i64 y.v.kind, .int .i64 y.v.n, .string ⟨y.v.s.toArray⟩, tv]] w R := by
  have HR := Lib.hid hR
  clear hR
  have hBa := alloc_below w (.cells #[.int .i64 x.e, .int .i64 x.a, .int .i64 x.v.kind, .int .i64 x.v.n, .string ⟨x.v.s.toArray⟩, sv] 42)
  have ha := Blk.new w [.int .i64 x.e, .int .i64 x.a, .int .i64 x.v.kind, .int .i64 x.v.n, .string ⟨x.v.s.toArray⟩, sv] 42 rfl
  have hsz : (w.alloc (.cells #[.int .i64 x.e, .int .i64 x.a, .int .i64 x.v.kind, .int .i64 x.v.n, .string ⟨x.v.s.toArray⟩, sv] 42)).heap.size = w.heap.size + 1 := by simp
  have hBb := alloc_below (w.alloc (.cells #[.int .i64 x.e, .int .i64 x.a, .int .i64 x.v.kind, .int .i64 x.v.n, .string ⟨x.v.s.toArray⟩, sv] 42)) (.cells #[.int .i64 y.e, .int .i64 y.a, .int .i64 y.v.kind, .int .i64 y.v.n, .string ⟨y.v.s.toArray⟩, tv] 42)
  have hb := Blk.new (w.alloc (.cells #[.int .i64 x.e, .int .i64 x.a, .int .i64 x.v.kind, .int .i64 x.v.n, .string ⟨x.v.s.toArray⟩, sv] 42)) [.int .i64 y.e, .int .i64 y.a, .int .i64 y.v.kind, .int .i64 y.v.n, .string ⟨y.v.s.toArray⟩, tv] 42 hsz.symm
  go_enter Try.func40, Try.ntmps40
  go_upto_region 1 with fail
  have ha2 := ha.below hBb ha.lt
  have HB := Lib.hid (hBa.trans (hBb.mono hBa.size))
  generalize (w.alloc (.cells #[.int .i64 x.e, .int .i64 x.a, .int .i64 x.v.kind, .int .i64 x.v.n, .string ⟨x.v.s.toArray⟩, sv] 42)).alloc (.cells #[.int .i64 y.e, .int .i64 y.a, .int .i64 y.v.kind, .int .i64 y.v.n, .string ⟨y.v.s.toArray⟩, tv] 42) = w2 at *
  have hx1 := ha2.lt
  have hy1 := hb.lt
  obtain ⟨x0, x1, x2, x3, x4, -⟩ := ha2.cells.f6
  obtain ⟨y0, y1, y2, y3, y4, -⟩ := hb.cells.f6
  clear ha ha2 hb hBa hBb
  refine wp_region_held_drew (S := fun w' => Below w2.heap.size w2 w') (by kernel_rfl) (Below.drew (Below.refl _ _)) (fun hHeld => ?_)
  refine wpAnyH_take (i := 0) (v := .pointer (some ⟨w.heap.size, 0, none⟩)) rfl (by kernel_rfl) (by kernel_rfl) (by kernel_rfl) (fun _ _ _ h => h) (Or.inl ⟨by rfl, ?_⟩) hHeld ?_
  · intro w' hSw; go_simp
  try simp only [ν1, ν2, ν3, ν4, ν5, ν6, ν7, ν8]
  refine wpAnyH_take (i := 1) (v := .int .i64 (x.e)) rfl (by kernel_rfl) (by kernel_rfl) (by kernel_rfl) (fun _ _ _ h => h) (Or.inl ⟨by rfl, ?_⟩) hHeld ?_
  · intro w' hSw; have kx := (World.cell?_of_block (hSw.block _ hx1)).trans x0; go_simp
  try simp only [ν1, ν2, ν3, ν4, ν5, ν6, ν7, ν8]
  refine wpAnyH_take (i := 2) (v := .pointer (some ⟨(w.heap.size + 1), 0, none⟩)) rfl (by kernel_rfl) (by kernel_rfl) (by kernel_rfl) (fun _ _ _ h => h) (Or.inl ⟨by rfl, ?_⟩) hHeld ?_
  · intro w' hSw; go_simp
  try simp only [ν1, ν2, ν3, ν4, ν5, ν6, ν7, ν8]
  refine wpAnyH_take (i := 3) (v := .int .i64 (y.e)) rfl (by kernel_rfl) (by kernel_rfl) (by kernel_rfl) (fun _ _ _ h => h) (Or.inl ⟨by rfl, ?_⟩) hHeld ?_
  · intro w' hSw; have kx := (World.cell?_of_block (hSw.block _ hy1)).trans y0; go_simp
  try simp only [ν1, ν2, ν3, ν4, ν5, ν6, ν7, ν8]
  refine wpAnyH_take (i := 5) (v := .pointer (some ⟨w.heap.size, 1, none⟩)) rfl (by kernel_rfl) (by kernel_rfl) (by kernel_rfl) (fun _ _ _ h => h) (Or.inl ⟨by rfl, ?_⟩) hHeld ?_
  · intro w' hSw; go_simp
  try simp only [ν1, ν2, ν3, ν4, ν5, ν6, ν7, ν8]
  refine wpAnyH_take (i := 6) (v := .int .i64 (x.a)) rfl (by kernel_rfl) (by kernel_rfl) (by kernel_rfl) (fun _ _ _ h => h) (Or.inl ⟨by rfl, ?_⟩) hHeld ?_
  · intro w' hSw; have kx := (World.cell?_of_block (hSw.block _ hx1)).trans x1; go_simp
  try simp only [ν1, ν2, ν3, ν4, ν5, ν6, ν7, ν8]
  refine wpAnyH_take (i := 7) (v := .pointer (some ⟨(w.heap.size + 1), 1, none⟩)) rfl (by kernel_rfl) (by kernel_rfl) (by kernel_rfl) (fun _ _ _ h => h) (Or.inl ⟨by rfl, ?_⟩) hHeld ?_
  · intro w' hSw; go_simp
  try simp only [ν1, ν2, ν3, ν4, ν5, ν6, ν7, ν8]
  refine wpAnyH_take (i := 8) (v := .int .i64 (y.a)) rfl (by kernel_rfl) (by kernel_rfl) (by kernel_rfl) (fun _ _ _ h => h) (Or.inl ⟨by rfl, ?_⟩) hHeld ?_
  · intro w' hSw; have kx := (World.cell?_of_block (hSw.block _ hy1)).trans y1; go_simp
  try simp only [ν1, ν2, ν3, ν4, ν5, ν6, ν7, ν8]
  refine wpAnyH_take (i := 10) (v := .pointer (some ⟨w.heap.size, 2, none⟩)) rfl (by kernel_rfl) (by kernel_rfl) (by kernel_rfl) (fun _ _ _ h => h) (Or.inl ⟨by rfl, ?_⟩) hHeld ?_
  · intro w' hSw; go_simp
  try simp only [ν1, ν2, ν3, ν4, ν5, ν6, ν7, ν8]
  refine wpAnyH_take (i := 11) (v := .agg #[.int .i64 (x.v.kind), .int .i64 (x.v.n), .string ⟨x.v.s.toArray⟩]) rfl (by kernel_rfl) (by kernel_rfl) (by kernel_rfl) (fun _ _ _ h => h) (Or.inl ⟨by rfl, ?_⟩) hHeld ?_
  · intro w' hSw; have k2 := (World.cell?_of_block (hSw.block _ hx1)).trans x2; have k3 := (World.cell?_of_block (hSw.block _ hx1)).trans x3; have k4 := (World.cell?_of_block (hSw.block _ hx1)).trans x4; go_simp
  try simp only [ν1, ν2, ν3, ν4, ν5, ν6, ν7, ν8]
  refine wpAnyH_take (i := 12) (v := .pointer (some ⟨(w.heap.size + 1), 2, none⟩)) rfl (by kernel_rfl) (by kernel_rfl) (by kernel_rfl) (fun _ _ _ h => h) (Or.inl ⟨by rfl, ?_⟩) hHeld ?_
  · intro w' hSw; go_simp
  try simp only [ν1, ν2, ν3, ν4, ν5, ν6, ν7, ν8]
  refine wpAnyH_take (i := 13) (v := .agg #[.int .i64 (y.v.kind), .int .i64 (y.v.n), .string ⟨y.v.s.toArray⟩]) rfl (by kernel_rfl) (by kernel_rfl) (by kernel_rfl) (fun _ _ _ h => h) (Or.inl ⟨by rfl, ?_⟩) hHeld ?_
  · intro w' hSw; have k2 := (World.cell?_of_block (hSw.block _ hy1)).trans y2; have k3 := (World.cell?_of_block (hSw.block _ hy1)).trans y3; have k4 := (World.cell?_of_block (hSw.block _ hy1)).trans y4; go_simp
  try simp only [ν1, ν2, ν3, ν4, ν5, ν6, ν7, ν8]
  refine wpAnyH_ready (rs := [4]) (by kernel_rfl) (by simp) ?_
  refine allCall (f := 68) (args := #[.int .i64 (x.e), .int .i64 (y.e)]) rfl (by kernel_rfl) (by kernel_rfl) ?_ AllReadyH.nil
  refine cmp_int64 x.e y.e w2.drew _ ⟨_, rfl, hHeld, ?_⟩
  try simp only [ν1, ν2, ν3, ν4, ν5, ν6, ν7, ν8]
  refine wpAnyH_ready (rs := [9]) (by kernel_rfl) (by simp) ?_
  refine allCall (f := 68) (args := #[.int .i64 (x.a), .int .i64 (y.a)]) rfl (by kernel_rfl) (by kernel_rfl) ?_ AllReadyH.nil
  refine cmp_int64 x.a y.a w2.drew _ ⟨_, rfl, hHeld, ?_⟩
  try simp only [ν1, ν2, ν3, ν4, ν5, ν6, ν7, ν8]
  refine wpAnyH_ready (rs := [14]) (by kernel_rfl) (by simp) ?_
  refine allCall (f := 69) (args := #[.agg #[.int .i64 (x.v.kind), .int .i64 (x.v.n), .string ⟨x.v.s.toArray⟩], .agg #[.int .i64 (y.v.kind), .int .i64 (y.v.n), .string ⟨y.v.s.toArray⟩]]) rfl (by kernel_rfl) (by kernel_rfl) ?_ AllReadyH.nil
  refine Compare_any x.v y.v w2.drew _ (fun wq1 hB => ?_)
  refine ⟨_, rfl, hHeld.trans (hB.mono hHeld.size), ?_⟩
  have hHeld2 := hHeld.trans (hB.mono hHeld.size)
  clear hHeld
  have hHeld := hHeld2
  clear hHeld2
  clear hB
  try simp only [ν1, ν2, ν3, ν4, ν5, ν6, ν7, ν8]
  refine wpAnyH_ready (rs := [15]) (by kernel_rfl) (by simp) ?_
  refine allVal (v := .slice (some ⟨wq1.heap.size, 0, none⟩) 3 3) (w' := wq1.alloc (.cells #[.int .i64 (icmp x.e y.e), .int .i64 (icmp x.a y.a), .int .i64 (cmpV x.v y.v)] 3)) rfl (by kernel_rfl) ?_ (hHeld.alloc hHeld.size _) ?_ AllReadyH.nil
  · go_simp
  have hcn := CellsAt.newAt wq1 [.int .i64 (icmp x.e y.e), .int .i64 (icmp x.a y.a), .int .i64 (cmpV x.v y.v)] 3 (n := wq1.heap.size) rfl
  have hHeld2 := hHeld.alloc hHeld.size (.cells #[.int .i64 (icmp x.e y.e), .int .i64 (icmp x.a y.a), .int .i64 (cmpV x.v y.v)] 3)
  clear hHeld
  have hHeld := hHeld2
  clear hHeld2
  generalize wq1.alloc (.cells #[.int .i64 (icmp x.e y.e), .int .i64 (icmp x.a y.a), .int .i64 (cmpV x.v y.v)] 3) = wz at *
  try simp only [ν1, ν2, ν3, ν4, ν5, ν6, ν7, ν8]
  refine wpAnyH_ready (rs := [16]) (by kernel_rfl) (by simp) ?_
  refine allCall (f := 51) (args := #[.slice (some ⟨wq1.heap.size, 0, none⟩) 3 3]) rfl (by kernel_rfl) (by kernel_rfl) ?_ AllReadyH.nil
  refine Or3 _ _ _ _ wz hcn _ ⟨_, rfl, hHeld, ?_⟩
  try simp only [ν1, ν2, ν3, ν4, ν5, ν6, ν7, ν8]
  refine wpAnyH_take (i := 17) (v := .int .i64 ((or3 (icmp x.e y.e) (icmp x.a y.a) (cmpV x.v y.v)))) rfl (by kernel_rfl) (by kernel_rfl) (by kernel_rfl) (fun _ _ _ h => h) (Or.inl ⟨by rfl, ?_⟩) hHeld ?_
  · intro w' hSw; go_simp
  try simp only [ν1, ν2, ν3, ν4, ν5, ν6, ν7, ν8]
  have hHeld0 := hHeld
  refine wpAnyH_done (by kernel_rfl) ?_ _
  clear hHeld
  have hr := HR.out wz (HB.out.trans (hHeld0.mono HB.out.size))
  clear hHeld0
  go_wp2_with fail
  first | exact hr | exact fin hr rfl
theorem factsB_true {l : List Ft} (h : ∀ j, j < l.length → ftOk l j = true) : factsB l = true := range_all h
theorem factsB_false {l : List Ft} {j : Nat} (hj : j < l.length) (h : ftOk l j = false) : factsB l = false := range_all_not hj h
set_option maxRecDepth 100000 in
set_option maxHeartbeats 8000000 in
theorem fall_any (lo hi : Nat) (l : List Ft) (v : Value) (w : World) (hv : Fts lo hi w v l) (hhi : hi ≤ w.heap.size) (hl : ∀ x ∈ l, x.v.s.length ≤ 9223372036854775807) (R : Ending → World → Prop) (hR : ∀ w', Below w.heap.size w w' → R (.returned (.bool (factsB l))) w') :
    Calls Try.prog 22 #[v] w R := by
  have Hv := Lib.hid hv
  have Hl := Lib.hid hl
  obtain ⟨ao, cap, rfl, hcl, hcm, -, -⟩ := hv.form
  clear hv hl
  go_enter Try.func22, Try.ntmps22
  go_wp2_with fail
  go_loopw [3, 4, 7] (fun _ _ t7 wr => ∃ k : Nat, k ≤ l.length ∧ t7 = .int .i64 k ∧ (∀ j, j < k → ftOk l j = true) ∧ Below w.heap.size w wr) (fun _ _ t7 _ => l.length - (intOf t7).toNat)
  case atStart => exact ⟨0, Nat.zero_le _, rfl, fun j h => absurd h (Nat.not_lt_zero _), Below.refl _ _⟩
  case round =>
    obtain ⟨k, hk, rfl, hyes, hB⟩ := hrel
    have Hyes := Lib.hid hyes
    clear hyes
    obtain ⟨wo, ewo⟩ : ∃ x, x = wr := ⟨_, rfl⟩
    subst ewo
    have hz := hB.size
    by_cases hlt : k < l.length
    · obtain ⟨ao', cap', e', -, -, -, hc⟩ := (Sl.below Hv.out ftE_loc hB hhi).form
      injection e' with e1 e2 e3
      subst e1 e3
      obtain ⟨b, off, rfl, hb1, hb2, hcc⟩ := hc k hlt
      obtain ⟨cs, _, hcs, sv, rfl, hsv⟩ := hcc k hlt
      have Hsv := Lib.hid hsv
      obtain ⟨ax, cx, rfl, -, -, -, -⟩ := hsv.form
      obtain ⟨h0, h1, h2, h3, h4, h5⟩ := hcs.f6
      have hbw : b < wo.heap.size := by omega
      have hxl := Hl.out l[k] (List.getElem_mem hlt)
      have Ho : Hid (ftOk l k = (l[k].may && (k == 0 || decide (cmpF (l.getD (k - 1) default) l[k] < 0)))) := Lib.hid (by unfold ftOk; rw [getD_at l _ k hlt])
      have HB := Lib.hid hB
      have kk0 : (0 : Int) ≤ (k : Int) := by omega
      have kkl : (k : Int) < (l.length : Int) := by omega
      clear hcs hB hc hsv
      by_cases hk0 : 0 < k
      · obtain ⟨m, hmk⟩ : ∃ m, k = m + 1 := ⟨k - 1, by omega⟩
        have hml : m < l.length := by omega
        obtain ⟨cs2, _, hcs2, sv2, rfl, hsv2⟩ := hcc m hml
        obtain ⟨ap, cp, rfl, -, -, -, -⟩ := hsv2.form
        obtain ⟨q0, q1, q2, q3, q4, q5⟩ := hcs2.f6
        have wj : IntKind.i64.wrap ((k : Int) - 1) = (m : Int) := by rw [show (k : Int) - 1 = (m : Int) by omega]; exact wrap_ok (by omega) (by omega)
        have Hj : Hid (l.getD (k - 1) default = l[m]) := Lib.hid (by rw [show k - 1 = m by omega, getD_at l _ m hml])
        have j0 : (0 : Int) ≤ (m : Int) := by omega
        have jl : (m : Int) < (l.length : Int) := by omega
        clear hcs2 hcc hsv2
        generalize l[m] = p at *
        generalize hs : l[k] = x at *
        clear hs hmk
        have hal := alloc_below wo (.cells #[.int .i64 x.e, .int .i64 x.a, .int .i64 x.v.kind, .int .i64 x.v.n, .string ⟨x.v.s.toArray⟩, .slice ax x.sp.length cx] 42)
        have hbk := Blk.new wo [.int .i64 x.e, .int .i64 x.a, .int .i64 x.v.kind, .int .i64 x.v.n, .string ⟨x.v.s.toArray⟩, .slice ax x.sp.length cx] 42 rfl
        go_upto_region 4 with fail
        generalize wo.alloc (.cells #[.int .i64 x.e, .int .i64 x.a, .int .i64 x.v.kind, .int .i64 x.v.n, .string ⟨x.v.s.toArray⟩, .slice ax x.sp.length cx] 42) = wa at *
        obtain ⟨y0, y1, y2, y3, y4, y5⟩ := hbk.cells.f6
        have hy1 := hbk.lt
        have hba : b < wa.heap.size := Nat.lt_of_lt_of_le hbw hal.size
        have g0 := (World.cell?_of_block (hal.block b hbw)).trans q0
        have g1 := (World.cell?_of_block (hal.block b hbw)).trans q1
        have g2 := (World.cell?_of_block (hal.block b hbw)).trans q2
        have g3 := (World.cell?_of_block (hal.block b hbw)).trans q3
        have g4 := (World.cell?_of_block (hal.block b hbw)).trans q4
        have g5 := (World.cell?_of_block (hal.block b hbw)).trans q5
        clear q0 q1 q2 q3 q4 q5
        have HBa := Lib.hid (HB.out.trans (hal.mono hz))
        have hha : hi ≤ wa.heap.size := Nat.le_trans hhi HBa.out.size
        have hSp : Hid (∀ w', Below wa.heap.size wa w' → Spans lo hi w' (.slice ax x.sp.length cx) x.sp) := Lib.hid (fun w' h => Sl.below (Sl.below Hsv.out Sp.loc hal (by omega)) Sp.loc h hha)
        clear hal hbk h0 h1 h2 h3 h4 h5 Hsv
        cases hm : x.may
        ·
          refine wp_region_held_drew (S := fun w' => Below wa.heap.size wa w') (by kernel_rfl) (Below.drew (Below.refl _ _)) (fun hHeld => ?_)
          refine wpAnyH_take (i := 0) (v := .agg #[.int .i64 (x.e), .int .i64 (x.a), .int .i64 (x.v.kind), .int .i64 (x.v.n), .string ⟨x.v.s.toArray⟩, .slice ax x.sp.length cx]) rfl (by kernel_rfl) (by kernel_rfl) (by kernel_rfl) (fun _ _ _ h => h) (Or.inl ⟨by rfl, ?_⟩) hHeld ?_
          · intro w' hSw; have k0 := (World.cell?_of_block (hSw.block _ hy1)).trans y0; have k1 := (World.cell?_of_block (hSw.block _ hy1)).trans y1; have k2 := (World.cell?_of_block (hSw.block _ hy1)).trans y2; have k3 := (World.cell?_of_block (hSw.block _ hy1)).trans y3; have k4 := (World.cell?_of_block (hSw.block _ hy1)).trans y4; have k5 := (World.cell?_of_block (hSw.block _ hy1)).trans y5; go_simp
          try simp only [ν1, ν2, ν3, ν4, ν5, ν6, ν7, ν8]
          refine wpAnyH_ready (rs := [1]) (by kernel_rfl) (by simp) ?_
          refine allCall (f := 39) (args := #[.agg #[.int .i64 (x.e), .int .i64 (x.a), .int .i64 (x.v.kind), .int .i64 (x.v.n), .string ⟨x.v.s.toArray⟩, .slice ax x.sp.length cx]]) rfl (by kernel_rfl) (by kernel_rfl) ?_ AllReadyH.nil
          refine fmay_any lo hi x (.slice ax x.sp.length cx) wa.drew (hSp.out _ hHeld) (Nat.le_trans hha hHeld.size) hxl _ (fun wq1 hB => ?_)
          rw [hm]
          refine ⟨_, rfl, hHeld.trans (hB.mono hHeld.size), ?_⟩
          have hHeld2 := hHeld.trans (hB.mono hHeld.size)
          clear hHeld
          have hHeld := hHeld2
          clear hHeld2
          clear hB
          try simp only [ν1, ν2, ν3, ν4, ν5, ν6, ν7, ν8]
          refine wpAnyH_take (i := 2) (v := .bool true) rfl (by kernel_rfl) (by kernel_rfl) (by kernel_rfl) (fun _ _ _ h => h) (Or.inl ⟨by rfl, ?_⟩) hHeld ?_
          · intro w' hSw; go_simp <;> omega
          try simp only [ν1, ν2, ν3, ν4, ν5, ν6, ν7, ν8]
          refine wpAnyH_take (i := 3) (v := .bool true) rfl (by kernel_rfl) (by kernel_rfl) (by kernel_rfl) (fun _ _ _ h => h) (Or.inl ⟨by rfl, ?_⟩) hHeld ?_
          · intro w' hSw; go_simp <;> omega
          try simp only [ν1, ν2, ν3, ν4, ν5, ν6, ν7, ν8]
          refine wpAnyH_take (i := 4) (v := undef) rfl (by kernel_rfl) (by kernel_rfl) (by kernel_rfl) (fun _ _ _ h => h) (Or.inr ⟨by kernel_rfl, rfl⟩) hHeld ?_
          try simp only [ν1, ν2, ν3, ν4, ν5, ν6, ν7, ν8]
          refine wpAnyH_take (i := 5) (v := undef) rfl (by kernel_rfl) (by kernel_rfl) (by kernel_rfl) (fun _ _ _ h => h) (Or.inr ⟨by kernel_rfl, rfl⟩) hHeld ?_
          try simp only [ν1, ν2, ν3, ν4, ν5, ν6, ν7, ν8]
          refine wpAnyH_take (i := 6) (v := undef) rfl (by kernel_rfl) (by kernel_rfl) (by kernel_rfl) (fun _ _ _ h => h) (Or.inr ⟨by kernel_rfl, rfl⟩) hHeld ?_
          try simp only [ν1, ν2, ν3, ν4, ν5, ν6, ν7, ν8]
          refine wpAnyH_take (i := 7) (v := undef) rfl (by kernel_rfl) (by kernel_rfl) (by kernel_rfl) (fun _ _ _ h => h) (Or.inr ⟨by kernel_rfl, rfl⟩) hHeld ?_
          try simp only [ν1, ν2, ν3, ν4, ν5, ν6, ν7, ν8]
          refine wpAnyH_take (i := 8) (v := undef) rfl (by kernel_rfl) (by kernel_rfl) (by kernel_rfl) (fun _ _ _ h => h) (Or.inr ⟨by kernel_rfl, rfl⟩) hHeld ?_
          try simp only [ν1, ν2, ν3, ν4, ν5, ν6, ν7, ν8]
          refine wpAnyH_take (i := 9) (v := undef) rfl (by kernel_rfl) (by kernel_rfl) (by kernel_rfl) (fun _ _ _ h => h) (Or.inr ⟨by kernel_rfl, rfl⟩) hHeld ?_
          try simp only [ν1, ν2, ν3, ν4, ν5, ν6, ν7, ν8]
          refine wpAnyH_take (i := 10) (v := undef) rfl (by kernel_rfl) (by kernel_rfl) (by kernel_rfl) (fun _ _ _ h => h) (Or.inr ⟨by kernel_rfl, rfl⟩) hHeld ?_
          try simp only [ν1, ν2, ν3, ν4, ν5, ν6, ν7, ν8]
          refine wpAnyH_take (i := 11) (v := undef) rfl (by kernel_rfl) (by kernel_rfl) (by kernel_rfl) (fun _ _ _ h => h) (Or.inr ⟨by kernel_rfl, rfl⟩) hHeld ?_
          try simp only [ν1, ν2, ν3, ν4, ν5, ν6, ν7, ν8]
          refine wpAnyH_take (i := 12) (v := undef) rfl (by kernel_rfl) (by kernel_rfl) (by kernel_rfl) (fun _ _ _ h => h) (Or.inr ⟨by kernel_rfl, rfl⟩) hHeld ?_
          try simp only [ν1, ν2, ν3, ν4, ν5, ν6, ν7, ν8]
          refine wpAnyH_take (i := 13) (v := undef) rfl (by kernel_rfl) (by kernel_rfl) (by kernel_rfl) (fun _ _ _ h => h) (Or.inr ⟨by kernel_rfl, rfl⟩) hHeld ?_
          try simp only [ν1, ν2, ν3, ν4, ν5, ν6, ν7, ν8]
          refine wpAnyH_take (i := 14) (v := undef) rfl (by kernel_rfl) (by kernel_rfl) (by kernel_rfl) (fun _ _ _ h => h) (Or.inr ⟨by kernel_rfl, rfl⟩) hHeld ?_
          try simp only [ν1, ν2, ν3, ν4, ν5, ν6, ν7, ν8]
          refine wpAnyH_take (i := 15) (v := undef) rfl (by kernel_rfl) (by kernel_rfl) (by kernel_rfl) (fun _ _ _ h => h) (Or.inr ⟨by kernel_rfl, rfl⟩) hHeld ?_
          try simp only [ν1, ν2, ν3, ν4, ν5, ν6, ν7, ν8]
          refine wpAnyH_take (i := 16) (v := .bool true) rfl (by kernel_rfl) (by kernel_rfl) (by kernel_rfl) (fun _ _ _ h => h) (Or.inl ⟨by rfl, ?_⟩) hHeld ?_
          · intro w' hSw; go_simp <;> omega
          try simp only [ν1, ν2, ν3, ν4, ν5, ν6, ν7, ν8]
          have hHeld0 := hHeld
          refine wpAnyH_done (by kernel_rfl) ?_ _
          clear hHeld
          have HB7 := Lib.hid (HBa.out.trans (hHeld0.mono HBa.out.size))
          clear hHeld0
          go_wp2_with fail
          exact fin (hR _ HB7.out) (show Value.bool _ = Value.bool _ by rw [factsB_false hlt (by rw [Ho.out, hm]; rfl)])
        by_cases hok : cmpF p x < 0
        ·
          refine wp_region_held_drew (S := fun w' => Below wa.heap.size wa w') (by kernel_rfl) (Below.drew (Below.refl _ _)) (fun hHeld => ?_)
          refine wpAnyH_take (i := 0) (v := .agg #[.int .i64 (x.e), .int .i64 (x.a), .int .i64 (x.v.kind), .int .i64 (x.v.n), .string ⟨x.v.s.toArray⟩, .slice ax x.sp.length cx]) rfl (by kernel_rfl) (by kernel_rfl) (by kernel_rfl) (fun _ _ _ h => h) (Or.inl ⟨by rfl, ?_⟩) hHeld ?_
          · intro w' hSw; have k0 := (World.cell?_of_block (hSw.block _ hy1)).trans y0; have k1 := (World.cell?_of_block (hSw.block _ hy1)).trans y1; have k2 := (World.cell?_of_block (hSw.block _ hy1)).trans y2; have k3 := (World.cell?_of_block (hSw.block _ hy1)).trans y3; have k4 := (World.cell?_of_block (hSw.block _ hy1)).trans y4; have k5 := (World.cell?_of_block (hSw.block _ hy1)).trans y5; go_simp
          try simp only [ν1, ν2, ν3, ν4, ν5, ν6, ν7, ν8]
          refine wpAnyH_ready (rs := [1]) (by kernel_rfl) (by simp) ?_
          refine allCall (f := 39) (args := #[.agg #[.int .i64 (x.e), .int .i64 (x.a), .int .i64 (x.v.kind), .int .i64 (x.v.n), .string ⟨x.v.s.toArray⟩, .slice ax x.sp.length cx]]) rfl (by kernel_rfl) (by kernel_rfl) ?_ AllReadyH.nil
          refine fmay_any lo hi x (.slice ax x.sp.length cx) wa.drew (hSp.out _ hHeld) (Nat.le_trans hha hHeld.size) hxl _ (fun wq1 hB => ?_)
          rw [hm]
          refine ⟨_, rfl, hHeld.trans (hB.mono hHeld.size), ?_⟩
          have hHeld2 := hHeld.trans (hB.mono hHeld.size)
          clear hHeld
          have hHeld := hHeld2
          clear hHeld2
          clear hB
          try simp only [ν1, ν2, ν3, ν4, ν5, ν6, ν7, ν8]
          refine wpAnyH_take (i := 2) (v := .bool false) rfl (by kernel_rfl) (by kernel_rfl) (by kernel_rfl) (fun _ _ _ h => h) (Or.inl ⟨by rfl, ?_⟩) hHeld ?_
          · intro w' hSw; go_simp <;> omega
          try simp only [ν1, ν2, ν3, ν4, ν5, ν6, ν7, ν8]
          refine wpAnyH_take (i := 3) (v := .bool false) rfl (by kernel_rfl) (by kernel_rfl) (by kernel_rfl) (fun _ _ _ h => h) (Or.inl ⟨by rfl, ?_⟩) hHeld ?_
          · intro w' hSw; go_simp <;> omega
          try simp only [ν1, ν2, ν3, ν4, ν5, ν6, ν7, ν8]
          refine wpAnyH_take (i := 4) (v := .int .i64 ((k : Int))) rfl (by kernel_rfl) (by kernel_rfl) (by kernel_rfl) (fun _ _ _ h => h) (Or.inl ⟨by rfl, ?_⟩) hHeld ?_
          · intro w' hSw; go_simp <;> omega
          try simp only [ν1, ν2, ν3, ν4, ν5, ν6, ν7, ν8]
          refine wpAnyH_take (i := 5) (v := .bool true) rfl (by kernel_rfl) (by kernel_rfl) (by kernel_rfl) (fun _ _ _ h => h) (Or.inl ⟨by rfl, ?_⟩) hHeld ?_
          · intro w' hSw; go_simp <;> omega
          try simp only [ν1, ν2, ν3, ν4, ν5, ν6, ν7, ν8]
          refine wpAnyH_take (i := 6) (v := .bool true) rfl (by kernel_rfl) (by kernel_rfl) (by kernel_rfl) (fun _ _ _ h => h) (Or.inl ⟨by rfl, ?_⟩) hHeld ?_
          · intro w' hSw; go_simp <;> omega
          try simp only [ν1, ν2, ν3, ν4, ν5, ν6, ν7, ν8]
          refine wpAnyH_take (i := 7) (v := .slice (some ⟨b, off, none⟩) l.length cap) rfl (by kernel_rfl) (by kernel_rfl) (by kernel_rfl) (fun _ _ _ h => h) (Or.inl ⟨by rfl, ?_⟩) hHeld ?_
          · intro w' hSw; go_simp <;> omega
          try simp only [ν1, ν2, ν3, ν4, ν5, ν6, ν7, ν8]
          refine wpAnyH_take (i := 8) (v := .int .i64 ((k : Int))) rfl (by kernel_rfl) (by kernel_rfl) (by kernel_rfl) (fun _ _ _ h => h) (Or.inl ⟨by rfl, ?_⟩) hHeld ?_
          · intro w' hSw; go_simp <;> omega
          try simp only [ν1, ν2, ν3, ν4, ν5, ν6, ν7, ν8]
          refine wpAnyH_take (i := 9) (v := .int .i64 ((m : Int))) rfl (by kernel_rfl) (by kernel_rfl) (by kernel_rfl) (fun _ _ _ h => h) (Or.inl ⟨by rfl, ?_⟩) hHeld ?_
          · intro w' hSw; go_simp <;> omega
          try simp only [ν1, ν2, ν3, ν4, ν5, ν6, ν7, ν8]
          refine wpAnyH_take (i := 10) (v := .pointer (some ⟨b, off + m * 6, none⟩)) rfl (by kernel_rfl) (by kernel_rfl) (by kernel_rfl) (fun _ _ _ h => h) (Or.inl ⟨by rfl, ?_⟩) hHeld ?_
          · intro w' hSw; go_simp <;> omega
          try simp only [ν1, ν2, ν3, ν4, ν5, ν6, ν7, ν8]
          refine wpAnyH_take (i := 11) (v := .agg #[.int .i64 (p.e), .int .i64 (p.a), .int .i64 (p.v.kind), .int .i64 (p.v.n), .string ⟨p.v.s.toArray⟩, .slice ap p.sp.length cp]) rfl (by kernel_rfl) (by kernel_rfl) (by kernel_rfl) (fun _ _ _ h => h) (Or.inl ⟨by rfl, ?_⟩) hHeld ?_
          · intro w' hSw; have k0 := (World.cell?_of_block (hSw.block _ hba)).trans g0; have k1 := (World.cell?_of_block (hSw.block _ hba)).trans g1; have k2 := (World.cell?_of_block (hSw.block _ hba)).trans g2; have k3 := (World.cell?_of_block (hSw.block _ hba)).trans g3; have k4 := (World.cell?_of_block (hSw.block _ hba)).trans g4; have k5 := (World.cell?_of_block (hSw.block _ hba)).trans g5; go_simp
          try simp only [ν1, ν2, ν3, ν4, ν5, ν6, ν7, ν8]
          refine wpAnyH_take (i := 12) (v := .agg #[.int .i64 (x.e), .int .i64 (x.a), .int .i64 (x.v.kind), .int .i64 (x.v.n), .string ⟨x.v.s.toArray⟩, .slice ax x.sp.length cx]) rfl (by kernel_rfl) (by kernel_rfl) (by kernel_rfl) (fun _ _ _ h => h) (Or.inl ⟨by rfl, ?_⟩) hHeld ?_
          · intro w' hSw; have k0 := (World.cell?_of_block (hSw.block _ hy1)).trans y0; have k1 := (World.cell?_of_block (hSw.block _ hy1)).trans y1; have k2 := (World.cell?_of_block (hSw.block _ hy1)).trans y2; have k3 := (World.cell?_of_block (hSw.block _ hy1)).trans y3; have k4 := (World.cell?_of_block (hSw.block _ hy1)).trans y4; have k5 := (World.cell?_of_block (hSw.block _ hy1)).trans y5; go_simp
          try simp only [ν1, ν2, ν3, ν4, ν5, ν6, ν7, ν8]
          refine wpAnyH_ready (rs := [13]) (by kernel_rfl) (by simp) ?_
          refine allCall (f := 40) (args := #[.agg #[.int .i64 (p.e), .int .i64 (p.a), .int .i64 (p.v.kind), .int .i64 (p.v.n), .string ⟨p.v.s.toArray⟩, .slice ap p.sp.length cp], .agg #[.int .i64 (x.e), .int .i64 (x.a), .int .i64 (x.v.kind), .int .i64 (x.v.n), .string ⟨x.v.s.toArray⟩, .slice ax x.sp.length cx]]) rfl (by kernel_rfl) (by kernel_rfl) ?_ AllReadyH.nil
          refine fcompare_any p x _ _ wq1 _ (fun wq2 hB => ?_)
          refine ⟨_, rfl, hHeld.trans (hB.mono hHeld.size), ?_⟩
          have hHeld2 := hHeld.trans (hB.mono hHeld.size)
          clear hHeld
          have hHeld := hHeld2
          clear hHeld2
          clear hB
          try simp only [ν1, ν2, ν3, ν4, ν5, ν6, ν7, ν8]
          refine wpAnyH_take (i := 14) (v := .bool false) rfl (by kernel_rfl) (by kernel_rfl) (by kernel_rfl) (fun _ _ _ h => h) (Or.inl ⟨by rfl, ?_⟩) hHeld ?_
          · intro w' hSw; go_simp <;> omega
          try simp only [ν1, ν2, ν3, ν4, ν5, ν6, ν7, ν8]
          refine wpAnyH_take (i := 15) (v := .bool false) rfl (by kernel_rfl) (by kernel_rfl) (by kernel_rfl) (fun _ _ _ h => h) (Or.inl ⟨by rfl, ?_⟩) hHeld ?_
          · intro w' hSw; go_simp <;> omega
          try simp only [ν1, ν2, ν3, ν4, ν5, ν6, ν7, ν8]
          refine wpAnyH_take (i := 16) (v := .bool false) rfl (by kernel_rfl) (by kernel_rfl) (by kernel_rfl) (fun _ _ _ h => h) (Or.inl ⟨by rfl, ?_⟩) hHeld ?_
          · intro w' hSw; go_simp <;> omega
          try simp only [ν1, ν2, ν3, ν4, ν5, ν6, ν7, ν8]
          have hHeld0 := hHeld
          refine wpAnyH_done (by kernel_rfl) ?_ _
          clear hHeld
          have HB7 := Lib.hid (HBa.out.trans (hHeld0.mono HBa.out.size))
          clear hHeld0
          go_wp2_with fail
          go_roundw
          case rel => exact ⟨k + 1, by omega, by go_num, fun j hj => by
            by_cases e : j = k
            · subst e; rw [Ho.out, Hj.out, hm]; simp [hok]
            · exact Hyes.out j (by omega), HB7.out⟩
          case measure => simp [intOf]; omega
        ·
          refine wp_region_held_drew (S := fun w' => Below wa.heap.size wa w') (by kernel_rfl) (Below.drew (Below.refl _ _)) (fun hHeld => ?_)
          refine wpAnyH_take (i := 0) (v := .agg #[.int .i64 (x.e), .int .i64 (x.a), .int .i64 (x.v.kind), .int .i64 (x.v.n), .string ⟨x.v.s.toArray⟩, .slice ax x.sp.length cx]) rfl (by kernel_rfl) (by kernel_rfl) (by kernel_rfl) (fun _ _ _ h => h) (Or.inl ⟨by rfl, ?_⟩) hHeld ?_
          · intro w' hSw; have k0 := (World.cell?_of_block (hSw.block _ hy1)).trans y0; have k1 := (World.cell?_of_block (hSw.block _ hy1)).trans y1; have k2 := (World.cell?_of_block (hSw.block _ hy1)).trans y2; have k3 := (World.cell?_of_block (hSw.block _ hy1)).trans y3; have k4 := (World.cell?_of_block (hSw.block _ hy1)).trans y4; have k5 := (World.cell?_of_block (hSw.block _ hy1)).trans y5; go_simp
          try simp only [ν1, ν2, ν3, ν4, ν5, ν6, ν7, ν8]
          refine wpAnyH_ready (rs := [1]) (by kernel_rfl) (by simp) ?_
          refine allCall (f := 39) (args := #[.agg #[.int .i64 (x.e), .int .i64 (x.a), .int .i64 (x.v.kind), .int .i64 (x.v.n), .string ⟨x.v.s.toArray⟩, .slice ax x.sp.length cx]]) rfl (by kernel_rfl) (by kernel_rfl) ?_ AllReadyH.nil
          refine fmay_any lo hi x (.slice ax x.sp.length cx) wa.drew (hSp.out _ hHeld) (Nat.le_trans hha hHeld.size) hxl _ (fun wq1 hB => ?_)
          rw [hm]
          refine ⟨_, rfl, hHeld.trans (hB.mono hHeld.size), ?_⟩
          have hHeld2 := hHeld.trans (hB.mono hHeld.size)
          clear hHeld
          have hHeld := hHeld2
          clear hHeld2
          clear hB
          try simp only [ν1, ν2, ν3, ν4, ν5, ν6, ν7, ν8]
          refine wpAnyH_take (i := 2) (v := .bool false) rfl (by kernel_rfl) (by kernel_rfl) (by kernel_rfl) (fun _ _ _ h => h) (Or.inl ⟨by rfl, ?_⟩) hHeld ?_
          · intro w' hSw; go_simp <;> omega
          try simp only [ν1, ν2, ν3, ν4, ν5, ν6, ν7, ν8]
          refine wpAnyH_take (i := 3) (v := .bool false) rfl (by kernel_rfl) (by kernel_rfl) (by kernel_rfl) (fun _ _ _ h => h) (Or.inl ⟨by rfl, ?_⟩) hHeld ?_
          · intro w' hSw; go_simp <;> omega
          try simp only [ν1, ν2, ν3, ν4, ν5, ν6, ν7, ν8]
          refine wpAnyH_take (i := 4) (v := .int .i64 ((k : Int))) rfl (by kernel_rfl) (by kernel_rfl) (by kernel_rfl) (fun _ _ _ h => h) (Or.inl ⟨by rfl, ?_⟩) hHeld ?_
          · intro w' hSw; go_simp <;> omega
          try simp only [ν1, ν2, ν3, ν4, ν5, ν6, ν7, ν8]
          refine wpAnyH_take (i := 5) (v := .bool true) rfl (by kernel_rfl) (by kernel_rfl) (by kernel_rfl) (fun _ _ _ h => h) (Or.inl ⟨by rfl, ?_⟩) hHeld ?_
          · intro w' hSw; go_simp <;> omega
          try simp only [ν1, ν2, ν3, ν4, ν5, ν6, ν7, ν8]
          refine wpAnyH_take (i := 6) (v := .bool true) rfl (by kernel_rfl) (by kernel_rfl) (by kernel_rfl) (fun _ _ _ h => h) (Or.inl ⟨by rfl, ?_⟩) hHeld ?_
          · intro w' hSw; go_simp <;> omega
          try simp only [ν1, ν2, ν3, ν4, ν5, ν6, ν7, ν8]
          refine wpAnyH_take (i := 7) (v := .slice (some ⟨b, off, none⟩) l.length cap) rfl (by kernel_rfl) (by kernel_rfl) (by kernel_rfl) (fun _ _ _ h => h) (Or.inl ⟨by rfl, ?_⟩) hHeld ?_
          · intro w' hSw; go_simp <;> omega
          try simp only [ν1, ν2, ν3, ν4, ν5, ν6, ν7, ν8]
          refine wpAnyH_take (i := 8) (v := .int .i64 ((k : Int))) rfl (by kernel_rfl) (by kernel_rfl) (by kernel_rfl) (fun _ _ _ h => h) (Or.inl ⟨by rfl, ?_⟩) hHeld ?_
          · intro w' hSw; go_simp <;> omega
          try simp only [ν1, ν2, ν3, ν4, ν5, ν6, ν7, ν8]
          refine wpAnyH_take (i := 9) (v := .int .i64 ((m : Int))) rfl (by kernel_rfl) (by kernel_rfl) (by kernel_rfl) (fun _ _ _ h => h) (Or.inl ⟨by rfl, ?_⟩) hHeld ?_
          · intro w' hSw; go_simp <;> omega
          try simp only [ν1, ν2, ν3, ν4, ν5, ν6, ν7, ν8]
          refine wpAnyH_take (i := 10) (v := .pointer (some ⟨b, off + m * 6, none⟩)) rfl (by kernel_rfl) (by kernel_rfl) (by kernel_rfl) (fun _ _ _ h => h) (Or.inl ⟨by rfl, ?_⟩) hHeld ?_
          · intro w' hSw; go_simp <;> omega
          try simp only [ν1, ν2, ν3, ν4, ν5, ν6, ν7, ν8]
          refine wpAnyH_take (i := 11) (v := .agg #[.int .i64 (p.e), .int .i64 (p.a), .int .i64 (p.v.kind), .int .i64 (p.v.n), .string ⟨p.v.s.toArray⟩, .slice ap p.sp.length cp]) rfl (by kernel_rfl) (by kernel_rfl) (by kernel_rfl) (fun _ _ _ h => h) (Or.inl ⟨by rfl, ?_⟩) hHeld ?_
          · intro w' hSw; have k0 := (World.cell?_of_block (hSw.block _ hba)).trans g0; have k1 := (World.cell?_of_block (hSw.block _ hba)).trans g1; have k2 := (World.cell?_of_block (hSw.block _ hba)).trans g2; have k3 := (World.cell?_of_block (hSw.block _ hba)).trans g3; have k4 := (World.cell?_of_block (hSw.block _ hba)).trans g4; have k5 := (World.cell?_of_block (hSw.block _ hba)).trans g5; go_simp
          try simp only [ν1, ν2, ν3, ν4, ν5, ν6, ν7, ν8]
          refine wpAnyH_take (i := 12) (v := .agg #[.int .i64 (x.e), .int .i64 (x.a), .int .i64 (x.v.kind), .int .i64 (x.v.n), .string ⟨x.v.s.toArray⟩, .slice ax x.sp.length cx]) rfl (by kernel_rfl) (by kernel_rfl) (by kernel_rfl) (fun _ _ _ h => h) (Or.inl ⟨by rfl, ?_⟩) hHeld ?_
          · intro w' hSw; have k0 := (World.cell?_of_block (hSw.block _ hy1)).trans y0; have k1 := (World.cell?_of_block (hSw.block _ hy1)).trans y1; have k2 := (World.cell?_of_block (hSw.block _ hy1)).trans y2; have k3 := (World.cell?_of_block (hSw.block _ hy1)).trans y3; have k4 := (World.cell?_of_block (hSw.block _ hy1)).trans y4; have k5 := (World.cell?_of_block (hSw.block _ hy1)).trans y5; go_simp
          try simp only [ν1, ν2, ν3, ν4, ν5, ν6, ν7, ν8]
          refine wpAnyH_ready (rs := [13]) (by kernel_rfl) (by simp) ?_
          refine allCall (f := 40) (args := #[.agg #[.int .i64 (p.e), .int .i64 (p.a), .int .i64 (p.v.kind), .int .i64 (p.v.n), .string ⟨p.v.s.toArray⟩, .slice ap p.sp.length cp], .agg #[.int .i64 (x.e), .int .i64 (x.a), .int .i64 (x.v.kind), .int .i64 (x.v.n), .string ⟨x.v.s.toArray⟩, .slice ax x.sp.length cx]]) rfl (by kernel_rfl) (by kernel_rfl) ?_ AllReadyH.nil
          refine fcompare_any p x _ _ wq1 _ (fun wq2 hB => ?_)
          refine ⟨_, rfl, hHeld.trans (hB.mono hHeld.size), ?_⟩
          have hHeld2 := hHeld.trans (hB.mono hHeld.size)
          clear hHeld
          have hHeld := hHeld2
          clear hHeld2
          clear hB
          try simp only [ν1, ν2, ν3, ν4, ν5, ν6, ν7, ν8]
          refine wpAnyH_take (i := 14) (v := .bool true) rfl (by kernel_rfl) (by kernel_rfl) (by kernel_rfl) (fun _ _ _ h => h) (Or.inl ⟨by rfl, ?_⟩) hHeld ?_
          · intro w' hSw; go_simp <;> omega
          try simp only [ν1, ν2, ν3, ν4, ν5, ν6, ν7, ν8]
          refine wpAnyH_take (i := 15) (v := .bool true) rfl (by kernel_rfl) (by kernel_rfl) (by kernel_rfl) (fun _ _ _ h => h) (Or.inl ⟨by rfl, ?_⟩) hHeld ?_
          · intro w' hSw; go_simp <;> omega
          try simp only [ν1, ν2, ν3, ν4, ν5, ν6, ν7, ν8]
          refine wpAnyH_take (i := 16) (v := .bool true) rfl (by kernel_rfl) (by kernel_rfl) (by kernel_rfl) (fun _ _ _ h => h) (Or.inl ⟨by rfl, ?_⟩) hHeld ?_
          · intro w' hSw; go_simp <;> omega
          try simp only [ν1, ν2, ν3, ν4, ν5, ν6, ν7, ν8]
          have hHeld0 := hHeld
          refine wpAnyH_done (by kernel_rfl) ?_ _
          clear hHeld
          have HB7 := Lib.hid (HBa.out.trans (hHeld0.mono HBa.out.size))
          clear hHeld0
          go_wp2_with fail
          exact fin (hR _ HB7.out) (show Value.bool _ = Value.bool _ by rw [factsB_false hlt (by rw [Ho.out, Hj.out, hm]; simp; omega)])
      · clear hcc
        generalize hs : l[k] = x at *
        clear hs
        have k0 : (k : Int) ≤ 0 := by omega
        have hal := alloc_below wo (.cells #[.int .i64 x.e, .int .i64 x.a, .int .i64 x.v.kind, .int .i64 x.v.n, .string ⟨x.v.s.toArray⟩, .slice ax x.sp.length cx] 42)
        have hbk := Blk.new wo [.int .i64 x.e, .int .i64 x.a, .int .i64 x.v.kind, .int .i64 x.v.n, .string ⟨x.v.s.toArray⟩, .slice ax x.sp.length cx] 42 rfl
        go_upto_region 4 with fail
        generalize wo.alloc (.cells #[.int .i64 x.e, .int .i64 x.a, .int .i64 x.v.kind, .int .i64 x.v.n, .string ⟨x.v.s.toArray⟩, .slice ax x.sp.length cx] 42) = wa at *
        obtain ⟨y0, y1, y2, y3, y4, y5⟩ := hbk.cells.f6
        have hy1 := hbk.lt
        have hba : b < wa.heap.size := Nat.lt_of_lt_of_le hbw hal.size
        have HBa := Lib.hid (HB.out.trans (hal.mono hz))
        have hha : hi ≤ wa.heap.size := Nat.le_trans hhi HBa.out.size
        have hSp : Hid (∀ w', Below wa.heap.size wa w' → Spans lo hi w' (.slice ax x.sp.length cx) x.sp) := Lib.hid (fun w' h => Sl.below (Sl.below Hsv.out Sp.loc hal (by omega)) Sp.loc h hha)
        clear hal hbk h0 h1 h2 h3 h4 h5 Hsv
        cases hm : x.may
        ·
          refine wp_region_held_drew (S := fun w' => Below wa.heap.size wa w') (by kernel_rfl) (Below.drew (Below.refl _ _)) (fun hHeld => ?_)
          refine wpAnyH_take (i := 0) (v := .agg #[.int .i64 (x.e), .int .i64 (x.a), .int .i64 (x.v.kind), .int .i64 (x.v.n), .string ⟨x.v.s.toArray⟩, .slice ax x.sp.length cx]) rfl (by kernel_rfl) (by kernel_rfl) (by kernel_rfl) (fun _ _ _ h => h) (Or.inl ⟨by rfl, ?_⟩) hHeld ?_
          · intro w' hSw; have k0 := (World.cell?_of_block (hSw.block _ hy1)).trans y0; have k1 := (World.cell?_of_block (hSw.block _ hy1)).trans y1; have k2 := (World.cell?_of_block (hSw.block _ hy1)).trans y2; have k3 := (World.cell?_of_block (hSw.block _ hy1)).trans y3; have k4 := (World.cell?_of_block (hSw.block _ hy1)).trans y4; have k5 := (World.cell?_of_block (hSw.block _ hy1)).trans y5; go_simp
          try simp only [ν1, ν2, ν3, ν4, ν5, ν6, ν7, ν8]
          refine wpAnyH_ready (rs := [1]) (by kernel_rfl) (by simp) ?_
          refine allCall (f := 39) (args := #[.agg #[.int .i64 (x.e), .int .i64 (x.a), .int .i64 (x.v.kind), .int .i64 (x.v.n), .string ⟨x.v.s.toArray⟩, .slice ax x.sp.length cx]]) rfl (by kernel_rfl) (by kernel_rfl) ?_ AllReadyH.nil
          refine fmay_any lo hi x (.slice ax x.sp.length cx) wa.drew (hSp.out _ hHeld) (Nat.le_trans hha hHeld.size) hxl _ (fun wq1 hB => ?_)
          rw [hm]
          refine ⟨_, rfl, hHeld.trans (hB.mono hHeld.size), ?_⟩
          have hHeld2 := hHeld.trans (hB.mono hHeld.size)
          clear hHeld
          have hHeld := hHeld2
          clear hHeld2
          clear hB
          try simp only [ν1, ν2, ν3, ν4, ν5, ν6, ν7, ν8]
          refine wpAnyH_take (i := 2) (v := .bool true) rfl (by kernel_rfl) (by kernel_rfl) (by kernel_rfl) (fun _ _ _ h => h) (Or.inl ⟨by rfl, ?_⟩) hHeld ?_
          · intro w' hSw; go_simp <;> omega
          try simp only [ν1, ν2, ν3, ν4, ν5, ν6, ν7, ν8]
          refine wpAnyH_take (i := 3) (v := .bool true) rfl (by kernel_rfl) (by kernel_rfl) (by kernel_rfl) (fun _ _ _ h => h) (Or.inl ⟨by rfl, ?_⟩) hHeld ?_
          · intro w' hSw; go_simp <;> omega
          try simp only [ν1, ν2, ν3, ν4, ν5, ν6, ν7, ν8]
          refine wpAnyH_take (i := 4) (v := undef) rfl (by kernel_rfl) (by kernel_rfl) (by kernel_rfl) (fun _ _ _ h => h) (Or.inr ⟨by kernel_rfl, rfl⟩) hHeld ?_
          try simp only [ν1, ν2, ν3, ν4, ν5, ν6, ν7, ν8]
          refine wpAnyH_take (i := 5) (v := undef) rfl (by kernel_rfl) (by kernel_rfl) (by kernel_rfl) (fun _ _ _ h => h) (Or.inr ⟨by kernel_rfl, rfl⟩) hHeld ?_
          try simp only [ν1, ν2, ν3, ν4, ν5, ν6, ν7, ν8]
          refine wpAnyH_take (i := 6) (v := undef) rfl (by kernel_rfl) (by kernel_rfl) (by kernel_rfl) (fun _ _ _ h => h) (Or.inr ⟨by kernel_rfl, rfl⟩) hHeld ?_
          try simp only [ν1, ν2, ν3, ν4, ν5, ν6, ν7, ν8]
          refine wpAnyH_take (i := 7) (v := undef) rfl (by kernel_rfl) (by kernel_rfl) (by kernel_rfl) (fun _ _ _ h => h) (Or.inr ⟨by kernel_rfl, rfl⟩) hHeld ?_
          try simp only [ν1, ν2, ν3, ν4, ν5, ν6, ν7, ν8]
          refine wpAnyH_take (i := 8) (v := undef) rfl (by kernel_rfl) (by kernel_rfl) (by kernel_rfl) (fun _ _ _ h => h) (Or.inr ⟨by kernel_rfl, rfl⟩) hHeld ?_
          try simp only [ν1, ν2, ν3, ν4, ν5, ν6, ν7, ν8]
          refine wpAnyH_take (i := 9) (v := undef) rfl (by kernel_rfl) (by kernel_rfl) (by kernel_rfl) (fun _ _ _ h => h) (Or.inr ⟨by kernel_rfl, rfl⟩) hHeld ?_
          try simp only [ν1, ν2, ν3, ν4, ν5, ν6, ν7, ν8]
          refine wpAnyH_take (i := 10) (v := undef) rfl (by kernel_rfl) (by kernel_rfl) (by kernel_rfl) (fun _ _ _ h => h) (Or.inr ⟨by kernel_rfl, rfl⟩) hHeld ?_
          try simp only [ν1, ν2, ν3, ν4, ν5, ν6, ν7, ν8]
          refine wpAnyH_take (i := 11) (v := undef) rfl (by kernel_rfl) (by kernel_rfl) (by kernel_rfl) (fun _ _ _ h => h) (Or.inr ⟨by kernel_rfl, rfl⟩) hHeld ?_
          try simp only [ν1, ν2, ν3, ν4, ν5, ν6, ν7, ν8]
          refine wpAnyH_take (i := 12) (v := undef) rfl (by kernel_rfl) (by kernel_rfl) (by kernel_rfl) (fun _ _ _ h => h) (Or.inr ⟨by kernel_rfl, rfl⟩) hHeld ?_
          try simp only [ν1, ν2, ν3, ν4, ν5, ν6, ν7, ν8]
          refine wpAnyH_take (i := 13) (v := undef) rfl (by kernel_rfl) (by kernel_rfl) (by kernel_rfl) (fun _ _ _ h => h) (Or.inr ⟨by kernel_rfl, rfl⟩) hHeld ?_
          try simp only [ν1, ν2, ν3, ν4, ν5, ν6, ν7, ν8]
          refine wpAnyH_take (i := 14) (v := undef) rfl (by kernel_rfl) (by kernel_rfl) (by kernel_rfl) (fun _ _ _ h => h) (Or.inr ⟨by kernel_rfl, rfl⟩) hHeld ?_
          try simp only [ν1, ν2, ν3, ν4, ν5, ν6, ν7, ν8]
          refine wpAnyH_take (i := 15) (v := undef) rfl (by kernel_rfl) (by kernel_rfl) (by kernel_rfl) (fun _ _ _ h => h) (Or.inr ⟨by kernel_rfl, rfl⟩) hHeld ?_
          try simp only [ν1, ν2, ν3, ν4, ν5, ν6, ν7, ν8]
          refine wpAnyH_take (i := 16) (v := .bool true) rfl (by kernel_rfl) (by kernel_rfl) (by kernel_rfl) (fun _ _ _ h => h) (Or.inl ⟨by rfl, ?_⟩) hHeld ?_
          · intro w' hSw; go_simp <;> omega
          try simp only [ν1, ν2, ν3, ν4, ν5, ν6, ν7, ν8]
          have hHeld0 := hHeld
          refine wpAnyH_done (by kernel_rfl) ?_ _
          clear hHeld
          have HB7 := Lib.hid (HBa.out.trans (hHeld0.mono HBa.out.size))
          clear hHeld0
          go_wp2_with fail
          exact fin (hR _ HB7.out) (show Value.bool _ = Value.bool _ by rw [factsB_false hlt (by rw [Ho.out, hm]; rfl)])
        ·
          refine wp_region_held_drew (S := fun w' => Below wa.heap.size wa w') (by kernel_rfl) (Below.drew (Below.refl _ _)) (fun hHeld => ?_)
          refine wpAnyH_take (i := 0) (v := .agg #[.int .i64 (x.e), .int .i64 (x.a), .int .i64 (x.v.kind), .int .i64 (x.v.n), .string ⟨x.v.s.toArray⟩, .slice ax x.sp.length cx]) rfl (by kernel_rfl) (by kernel_rfl) (by kernel_rfl) (fun _ _ _ h => h) (Or.inl ⟨by rfl, ?_⟩) hHeld ?_
          · intro w' hSw; have k0 := (World.cell?_of_block (hSw.block _ hy1)).trans y0; have k1 := (World.cell?_of_block (hSw.block _ hy1)).trans y1; have k2 := (World.cell?_of_block (hSw.block _ hy1)).trans y2; have k3 := (World.cell?_of_block (hSw.block _ hy1)).trans y3; have k4 := (World.cell?_of_block (hSw.block _ hy1)).trans y4; have k5 := (World.cell?_of_block (hSw.block _ hy1)).trans y5; go_simp
          try simp only [ν1, ν2, ν3, ν4, ν5, ν6, ν7, ν8]
          refine wpAnyH_ready (rs := [1]) (by kernel_rfl) (by simp) ?_
          refine allCall (f := 39) (args := #[.agg #[.int .i64 (x.e), .int .i64 (x.a), .int .i64 (x.v.kind), .int .i64 (x.v.n), .string ⟨x.v.s.toArray⟩, .slice ax x.sp.length cx]]) rfl (by kernel_rfl) (by kernel_rfl) ?_ AllReadyH.nil
          refine fmay_any lo hi x (.slice ax x.sp.length cx) wa.drew (hSp.out _ hHeld) (Nat.le_trans hha hHeld.size) hxl _ (fun wq1 hB => ?_)
          rw [hm]
          refine ⟨_, rfl, hHeld.trans (hB.mono hHeld.size), ?_⟩
          have hHeld2 := hHeld.trans (hB.mono hHeld.size)
          clear hHeld
          have hHeld := hHeld2
          clear hHeld2
          clear hB
          try simp only [ν1, ν2, ν3, ν4, ν5, ν6, ν7, ν8]
          refine wpAnyH_take (i := 2) (v := .bool false) rfl (by kernel_rfl) (by kernel_rfl) (by kernel_rfl) (fun _ _ _ h => h) (Or.inl ⟨by rfl, ?_⟩) hHeld ?_
          · intro w' hSw; go_simp <;> omega
          try simp only [ν1, ν2, ν3, ν4, ν5, ν6, ν7, ν8]
          refine wpAnyH_take (i := 3) (v := .bool false) rfl (by kernel_rfl) (by kernel_rfl) (by kernel_rfl) (fun _ _ _ h => h) (Or.inl ⟨by rfl, ?_⟩) hHeld ?_
          · intro w' hSw; go_simp <;> omega
          try simp only [ν1, ν2, ν3, ν4, ν5, ν6, ν7, ν8]
          refine wpAnyH_take (i := 4) (v := .int .i64 ((k : Int))) rfl (by kernel_rfl) (by kernel_rfl) (by kernel_rfl) (fun _ _ _ h => h) (Or.inl ⟨by rfl, ?_⟩) hHeld ?_
          · intro w' hSw; go_simp <;> omega
          try simp only [ν1, ν2, ν3, ν4, ν5, ν6, ν7, ν8]
          refine wpAnyH_take (i := 5) (v := .bool false) rfl (by kernel_rfl) (by kernel_rfl) (by kernel_rfl) (fun _ _ _ h => h) (Or.inl ⟨by rfl, ?_⟩) hHeld ?_
          · intro w' hSw; go_simp <;> omega
          try simp only [ν1, ν2, ν3, ν4, ν5, ν6, ν7, ν8]
          refine wpAnyH_take (i := 6) (v := .bool false) rfl (by kernel_rfl) (by kernel_rfl) (by kernel_rfl) (fun _ _ _ h => h) (Or.inl ⟨by rfl, ?_⟩) hHeld ?_
          · intro w' hSw; go_simp <;> omega
          try simp only [ν1, ν2, ν3, ν4, ν5, ν6, ν7, ν8]
          refine wpAnyH_take (i := 7) (v := undef) rfl (by kernel_rfl) (by kernel_rfl) (by kernel_rfl) (fun _ _ _ h => h) (Or.inr ⟨by kernel_rfl, rfl⟩) hHeld ?_
          try simp only [ν1, ν2, ν3, ν4, ν5, ν6, ν7, ν8]
          refine wpAnyH_take (i := 8) (v := undef) rfl (by kernel_rfl) (by kernel_rfl) (by kernel_rfl) (fun _ _ _ h => h) (Or.inr ⟨by kernel_rfl, rfl⟩) hHeld ?_
          try simp only [ν1, ν2, ν3, ν4, ν5, ν6, ν7, ν8]
          refine wpAnyH_take (i := 9) (v := undef) rfl (by kernel_rfl) (by kernel_rfl) (by kernel_rfl) (fun _ _ _ h => h) (Or.inr ⟨by kernel_rfl, rfl⟩) hHeld ?_
          try simp only [ν1, ν2, ν3, ν4, ν5, ν6, ν7, ν8]
          refine wpAnyH_take (i := 10) (v := undef) rfl (by kernel_rfl) (by kernel_rfl) (by kernel_rfl) (fun _ _ _ h => h) (Or.inr ⟨by kernel_rfl, rfl⟩) hHeld ?_
          try simp only [ν1, ν2, ν3, ν4, ν5, ν6, ν7, ν8]
          refine wpAnyH_take (i := 11) (v := undef) rfl (by kernel_rfl) (by kernel_rfl) (by kernel_rfl) (fun _ _ _ h => h) (Or.inr ⟨by kernel_rfl, rfl⟩) hHeld ?_
          try simp only [ν1, ν2, ν3, ν4, ν5, ν6, ν7, ν8]
          refine wpAnyH_take (i := 12) (v := undef) rfl (by kernel_rfl) (by kernel_rfl) (by kernel_rfl) (fun _ _ _ h => h) (Or.inr ⟨by kernel_rfl, rfl⟩) hHeld ?_
          try simp only [ν1, ν2, ν3, ν4, ν5, ν6, ν7, ν8]
          refine wpAnyH_take (i := 13) (v := undef) rfl (by kernel_rfl) (by kernel_rfl) (by kernel_rfl) (fun _ _ _ h => h) (Or.inr ⟨by kernel_rfl, rfl⟩) hHeld ?_
          try simp only [ν1, ν2, ν3, ν4, ν5, ν6, ν7, ν8]
          refine wpAnyH_take (i := 14) (v := undef) rfl (by kernel_rfl) (by kernel_rfl) (by kernel_rfl) (fun _ _ _ h => h) (Or.inr ⟨by kernel_rfl, rfl⟩) hHeld ?_
          try simp only [ν1, ν2, ν3, ν4, ν5, ν6, ν7, ν8]
          refine wpAnyH_take (i := 15) (v := .bool false) rfl (by kernel_rfl) (by kernel_rfl) (by kernel_rfl) (fun _ _ _ h => h) (Or.inl ⟨by rfl, ?_⟩) hHeld ?_
          · intro w' hSw; go_simp <;> omega
          try simp only [ν1, ν2, ν3, ν4, ν5, ν6, ν7, ν8]
          refine wpAnyH_take (i := 16) (v := .bool false) rfl (by kernel_rfl) (by kernel_rfl) (by kernel_rfl) (fun _ _ _ h => h) (Or.inl ⟨by rfl, ?_⟩) hHeld ?_
          · intro w' hSw; go_simp <;> omega
          try simp only [ν1, ν2, ν3, ν4, ν5, ν6, ν7, ν8]
          have hHeld0 := hHeld
          refine wpAnyH_done (by kernel_rfl) ?_ _
          clear hHeld
          have HB7 := Lib.hid (HBa.out.trans (hHeld0.mono HBa.out.size))
          clear hHeld0
          go_wp2_with fail
          go_roundw
          case rel => exact ⟨k + 1, by omega, by go_num, fun j hj => by
            by_cases e : j = k
            · subst e; rw [Ho.out, hm]; simp; omega
            · exact Hyes.out j (by omega), HB7.out⟩
          case measure => simp [intOf]; omega
    · go_wp2_with fail
      exact fin (hR _ hB) (show Value.bool _ = Value.bool _ by rw [factsB_true (fun j hj => Hyes.out j (by omega))])
end Go.Proofs.Yticbhfmpnmolcaa
end
