/- Texts that the proofs of PullTells stand on, part 7. -/
import Derived.Sort.CutIn
import Derived.Sort.Grow
import Derived.Shelf.SlSortCmp.NoneTotal
import Derived.Laws.IdiomCopy
import Derived.Test.YticbhfmpnmolcaaKPullTells6
/- pull's branch, a tree's contract given. (Printed by pulu.py.) -/
section
set_option linter.unusedVariables false
set_option linter.unusedSimpArgs false
namespace Go.Proofs.Yticbhfmpnmolcaa
open Go.RowKit
set_option linter.unusedVariables false
set_option linter.unusedSimpArgs false
attribute [local go_sem] Oper.semAt_some
theorem undef_ne (b : Bool) : some undef ≠ some (Value.bool b) := fun h => by cases h
theorem roundPost_exitR {P : Program} {RL : LoopState → Option Code → Loop} {l : Nat} {fn : FuncId} {tmps : Array Value} {ps : Array Tmp} {assign body : Code} {D : Nat} {W : World} {R : Ending → World → Prop} {a : Act} {i : Nat}
    (hRL : RL = recL fn tmps ps assign body D) (hl : W.heap[l]? = some (.loop (RL .busy none)))
    (h : R (.returned (.bool false)) (W.putObj l (.loop (RL .done (some (.exit i)))))) : roundPost P l R (.exit i) a W := by
  subst hRL
  exact ⟨_, _, run_endRound (some (.exit i)) hl, h⟩
theorem heap_lt {w : World} {l : Nat} {o : Obj} (h : w.heap[l]? = some o) : l < w.heap.size := (Array.getElem?_eq_some_iff.1 h).1
theorem results_cell1 {P : Program} {fn : Func} {t : Tmp} {ty : TypeId} {tmps : Array Value} {w : World} {a : Addr} {v1 : Value} (h : fn.results = #[.cell t ty]) (ht : tmps.getD t undef = .pointer (some a)) (h1 : (loadVar ty a).run P w = .ok v1 w) : (results fn tmps).run P w = .ok v1 w := by
  simp only [results, h]
  have ht' : (tmps[t]?).getD undef = .pointer (some a) := by simpa using ht
  simp [Sem.run_bind, Result.andThen, ht', asAddr, h1]
theorem PulX.turnA {B M hA : Nat} {w w' : World} {lv av : Value} {fs : List Ft} {ats : List Attr} {n n' : Int} {A : Nat → Prop} (h : PulX B M hA w lv av fs ats n) (hO : Only A w w') (hb : Blk w' B [lv, .map (some M), av, .int .i64 n', .bool (decide (10000 < n'))] 49) (hA1 : ∀ k, A k → B ≤ k ∧ (k < B + 1 ∨ hA ≤ k)) (hM : ¬ A M) : PulX B M hA w' lv av fs ats n' :=
  ⟨hb, Sl.agree h.facts ftE_loc (hO.agree (Nat.le_of_lt h.blk.lt) (fun k e => .inr (hA1 k e).1)), Sl.agree h.attrs Attrs.loc (hO.agree h.le (fun k e => (hA1 k e).2)), Nat.le_trans h.le hO.size, h.names.same (hO.block M h.names.lt hM), h.ne⟩
theorem Blk.ne_obj {w : World} {b D : Nat} {cs : List Value} {t : TypeId} {o : Obj} (h : Blk w b cs t) (hD : w.heap[D]? = some o) (ho : o.isCells = false) : D ≠ b := by
  rintro rfl
  unfold Blk at h
  rw [h] at hD
  injection hD with hD
  subst hD
  cases ho
/-- The way out of branch. -/
theorem brTail {n : Nat} {fn : Func} {tmps : Array Value} {R : Ending → World → Prop} {D bo : Nat} {W : World} {v0 v1 v2 : Value} (hfn : fn.results = #[.cell 10 62]) (ht : tmps.getD 10 undef = .pointer (some ⟨bo, 0, none⟩)) (hbo : Blk W bo [v0, v1, v2] 62)
    (hD : W.heap[D]? = some (.deferred (some []))) (hR : R (.returned (.agg #[v0, v1, v2])) (W.putObj D (.deferred none))) : LeavesInM Fence.wide n Try.prog fn tmps R [markD D] .returning W := by
  refine ⟨by simp, .inl ⟨_, _, rfl, run_takeDeferred hD, ?_⟩⟩
  have hne := hbo.ne_obj hD rfl
  have h2 : Blk (W.putObj D (.deferred none)) bo [v0, v1, v2] 62 := (World.putObj_heap_other (Ne.symm hne)).trans hbo
  exact ⟨_, results_cell1 hfn ht (h2.cells.runVar (fun _ => by kernel_rfl) (fun _ => by kernel_rfl)), hR⟩
def set3 (w : World) (b : Nat) (v0 v1 v2 : Value) : World := ((w.setCell ⟨b, 0, none⟩ v0).setCell ⟨b, 1, none⟩ v1).setCell ⟨b, 2, none⟩ v2
theorem Blk.set3 {w : World} {b : Nat} {t : TypeId} {x0 x1 x2 : Value} (h : Blk w b [x0, x1, x2] t) (v0 v1 v2 : Value) : Blk (set3 w b v0 v1 v2) b [v0, v1, v2] t := ((h.set 0 v0).set 1 v1).set 2 v2
theorem only_set3 (w : World) (b : Nat) (v0 v1 v2 : Value) : Only (· = b) w (set3 w b v0 v1 v2) :=
  ((Only.setCell (A := (· = b)) w (p := ⟨b, 0, none⟩) rfl v0).trans (Only.setCell (A := (· = b)) _ (p := ⟨b, 1, none⟩) rfl v1)).trans (Only.setCell (A := (· = b)) _ (p := ⟨b, 2, none⟩) rfl v2)
/-- A branch under way. -/
structure BSt (d B M bb L : Nat) (lv av : Value) (n : Int) (attr : S) (back : Bool) (pl : List (Lf (Tr d))) (w2 W : World) (i : Nat) (n1 : Int) (hv : Value) (qs : List (LH (Tr d))) : Prop where
  only : Only (fun k => k = B ∨ k = bb ∨ k = L) w2 W
  blk : Blk W B [lv, .map (some M), av, .int .i64 n1, .bool (decide (10000 < n1))] 49
  box : Blk W bb [.string ⟨attr.toArray⟩, .bool back, hv] 62
  own : OwnL (Tr d) w2.heap.size W hv qs
  len : qs.length = i
  ile : i ≤ pl.length
  ge : n ≤ n1
  le : n1 ≤ 10001 + (d : Int)
  good : n + (lfsSize (Tr.size d) (pl.take i) : Nat) ≤ 10000 → n1 = n + (lfsSize (Tr.size d) (pl.take i) : Nat) ∧ qs.map (·.1) = pl.take i ∧ KeptAt (LfF d) w2.heap.size W hv qs
  bad : 10000 < n + (lfsSize (Tr.size d) (pl.take i) : Nat) → 10000 < n1
section
variable {d B M bb L : Nat} {lv av : Value} {n n1 n2 : Int} {attr : S} {back : Bool} {pl : List (Lf (Tr d))} {w2 W W' W'' : World} {i : Nat} {hv hv' : Value} {qs : List (LH (Tr d))}
theorem KeptAt.turnA {β : Type} {F : Nat → Nat → World → β → Prop} {lo : Nat} {w w' : World} {v : Value} {ps : List β} {A : Nat → Prop} (h : KeptAt F lo w v ps) (hF : LocF F) (hO : Only A w w') (hA : ∀ k, A k → k < lo) : KeptAt F lo w' v ps := fun p hp => by
  obtain ⟨a, b, h1, h2, h3, h4⟩ := h p hp
  exact ⟨a, b, h1, Nat.le_trans h2 hO.size, hF.agree h3 (hO.agree h2 (fun k e => .inl (by have := hA k e; omega))), h4⟩
theorem Own.turnA {α : Type} {enc : α → List Value} {e : TypeId} {size lo : Nat} {w w' : World} {v : Value} {xs : List α} {A : Nat → Prop} (h : Own enc e size lo w v xs) (hO : Only A w w') (hA : ∀ k, A k → k < lo) : Own enc e size lo w' v xs :=
  Own.same h (fun g hg => by have h1 := Own.lt h g hg; exact hO.block g h1.2 (fun e => by have := hA g e; omega))
/-- The loop's own block turns. -/
theorem BSt.loop (h : BSt d B M bb L lv av n attr back pl w2 W i n1 hv qs) (hO : Only (· = L) W W') (h1 : L ≠ B) (h2 : L ≠ bb) (h3 : L < w2.heap.size) : BSt d B M bb L lv av n attr back pl w2 W' i n1 hv qs :=
  ⟨h.only.trans (hO.mono (fun _ _ e => .inr (.inr e))), hO.blk h.blk (Ne.symm h1), hO.blk h.box (Ne.symm h2), Own.turnA h.own hO (fun k e => by have : k = L := e; omega), h.len, h.ile, h.ge, h.le, fun hs => by
    obtain ⟨g1, g2, g3⟩ := h.good hs
    exact ⟨g1, g2, g3.turnA (LfF.loc d) hO (fun k e => by have : k = L := e; omega)⟩, h.bad⟩
theorem BSt.below (h : BSt d B M bb L lv av n attr back pl w2 W i n1 hv qs) (hB : Below W.heap.size W W') : BSt d B M bb L lv av n attr back pl w2 W' i n1 hv qs :=
  ⟨h.only.trans (Below.only hB), h.blk.below hB h.blk.lt, h.box.below hB h.box.lt, Own.kept h.own hB, h.len, h.ile, h.ge, h.le, fun hs => by
    obtain ⟨g1, g2, g3⟩ := h.good hs
    exact ⟨g1, g2, g3.turnA (A := fun _ => False) (LfF.loc d) (Below.only hB) (fun k e => e.elim)⟩, h.bad⟩
/-- One leaf more: the leaf's call (W to W'), the append (to W''), the store. -/
theorem BSt.leaf (h : BSt d B M bb L lv av n attr back pl w2 W i n1 hv qs) {U : Lf (Tr d)} (hi0 : pl[i]? = some U) (hn : n1 ≤ 10000) (hB : B < w2.heap.size) (hbb : bb < w2.heap.size) (hne : bb ≠ B) {u : V} {inb : Bool} {ta : Option Addr} {tl tc : Nat} (hU : U.1 = u)
    (hO : Only (· = B) W W') (hb : Blk W' B [lv, .map (some M), av, .int .i64 n2, .bool (decide (10000 < n2))] 49) (hl : FOut d W.heap.size W' n1 n2 inb (.slice ta tl tc) U)
    (ho : OwnL (Tr d) w2.heap.size W'' hv' (qs ++ [((u, inb, U.2.2), (⟨ta, tl, tc⟩ : HD))])) (ha : Appended W' hv W'' hv') :
    BSt d B M bb L lv av n attr back pl w2 (W''.setCell ⟨bb, 2, none⟩ hv') (i + 1) n2 hv' (qs ++ [((u, inb, U.2.2), (⟨ta, tl, tc⟩ : HD))]) := by
  obtain ⟨hi, rfl⟩ := List.getElem?_eq_some_iff.1 hi0
  obtain ⟨l1, l2, l3, l4⟩ := hl
  have hge := h.ge
  have hbad := h.bad
  have hown := Own.turn h.own hO hB
  have hz := h.only.size
  have hz1 := hO.size
  have hlt := lfs_take (Tr.size d) hi
  have hbW := h.box.lt
  have hne2 : ∀ k, k < w2.heap.size → hv.ownBlock ≠ some k := fun k hk e => by have := (Own.lt h.own k e).1; omega
  have hon1 : Only (fun k => k = B ∨ k = bb ∨ k = L) w2 W'' := by
    refine (h.only.trans (hO.mono (fun _ _ e => .inl e))).thenA ?_
    exact ha.below (by omega) (fun k e => (Own.lt hown k e).1)
  have hO3 : Only (· = bb) W'' (W''.setCell ⟨bb, 2, none⟩ hv') := Only.setCell (A := (· = bb)) W'' (p := ⟨bb, 2, none⟩) rfl _
  refine ⟨hon1.trans (hO3.mono (fun _ _ e => .inr (.inl e))), hO3.blk (ha.blk hb (hne2 B hB)) (Ne.symm hne), (ha.blk (hO.blk h.box hne) (hne2 bb hbb)).set 2 hv', Own.turnA ho hO3 (fun k e => by have : k = bb := e; omega), by rw [List.length_append, h.len]; rfl, hi, by omega, l2, fun hs => ?_, fun hs => ?_⟩
  · rw [hlt] at hs ⊢
    obtain ⟨g1, g2, g3⟩ := h.good (by omega)
    obtain ⟨m1, m2, m3⟩ := l3 (by omega)
    refine ⟨by omega, ?_, ?_⟩
    · rw [List.map_append, g2, List.take_succ_eq_append_getElem hi, List.map_singleton]
      congr 2
      rw [m2, ← hU]
    · have k1 := (g3.turn (LfF.loc d) hO hB).snoc (p := ((u, inb, pl[i].2.2), (⟨ta, tl, tc⟩ : HD))) (a := W.heap.size) (b := W'.heap.size) hz (Nat.le_refl _) m3 (fun k hk => .inl (Own.lt h.own k hk).2)
      exact (k1.app (LfF.loc d) ha).turnA (LfF.loc d) hO3 (fun k e => by have : k = bb := e; omega)
  · rw [hlt] at hs
    by_cases hs2 : n + (lfsSize (Tr.size d) (pl.take i) : Nat) ≤ 10000
    · have := (h.good hs2).1
      exact l4 (by omega)
    · have := hbad (by omega); omega
/-- What a branch has in the end. -/
theorem BSt.out (h : BSt d B M bb L lv av n attr back pl w2 W i n1 hv qs) (he : 10000 < n1 ∨ i = pl.length) {lo : Nat} (hlo : lo ≤ w2.heap.size) : LOut d lo W n n1 hv pl := by
  have hge := h.ge
  have hle := h.le
  have hmono := lfs_take_le (Tr.size d) pl i
  refine ⟨hge, by omega, fun hs => ?_, fun hs => ?_⟩
  · obtain ⟨g1, g2, g3⟩ := h.good (by omega)
    have hip : i = pl.length := by
      rcases he with he | he
      · omega
      · exact he
    rw [hip, List.take_length] at g1 g2
    refine ⟨g1, ?_⟩
    rw [← g2]
    exact Sl.mono (LfsOk.sl (fun p hp => g3.all (LfF.loc d) p hp) (OwnL.sl h.own)) (lfE_loc (TrIn.loc d)) hlo (Nat.le_refl _)
  · rcases he with he | he
    · exact he
    · exact h.bad (by rw [he, List.take_length]; exact hs)
theorem LOut.agree {lo : Nat} {l : List (Lf (Tr d))} (h : LOut d lo W n n1 hv l) (ha : Agree lo W.heap.size W W') (hz : W.heap.size ≤ W'.heap.size) : LOut d lo W' n n1 hv l :=
  ⟨h.1, h.2.1, fun hs => ⟨(h.2.2.1 hs).1, Sl.mono ((h.2.2.1 hs).2.agree (lfE_loc (TrIn.loc d)) ha) (lfE_loc (TrIn.loc d)) (Nat.le_refl _) hz⟩, h.2.2.2⟩
theorem LOut.lower {lo lo' : Nat} {l : List (Lf (Tr d))} (h : LOut d lo W n n1 hv l) (hl : lo' ≤ lo) : LOut d lo' W n n1 hv l :=
  ⟨h.1, h.2.1, fun hs => ⟨(h.2.2.1 hs).1, Sl.mono (h.2.2.1 hs).2 (lfE_loc (TrIn.loc d)) hl (Nat.le_refl _)⟩, h.2.2.2⟩
theorem Appended.only {w w' : World} {v v' : Value} (h : Appended w v w' v') : Only (fun k => v.ownBlock = some k) w w' := ⟨h.grown.os, h.grown.tape, h.grown.output, h.grown.size, fun k hk hn => h.grown.block k hk (fun e => hn e.symm)⟩
theorem BSt.repl (h : BSt d B M bb L lv av n attr back pl w2 W 0 n1 hv qs) (pl' : List (Lf (Tr d))) : BSt d B M bb L lv av n attr back pl' w2 W 0 n1 hv qs :=
  ⟨h.only, h.blk, h.box, h.own, h.len, Nat.zero_le _, h.ge, h.le, by simpa using h.good, by simpa using h.bad⟩
end
def zeroIt : It := ⟨false, [], false, 0, false, ⟨0, 0, []⟩, false, [], 0⟩
theorem zeroPat (B : Nat) (w : World) (h : B < w.heap.size) : Pat B 0 0 0 w (.slice none 0 0) [] := ⟨Sl.nil _ _ _ _ _, fun p hp => absurd hp List.not_mem_nil, .inl (Nat.zero_le _), Nat.zero_le _, Nat.le_of_lt h, by simp [allL]⟩
theorem zeroIt_in (B : Nat) (w : World) (h : B < w.heap.size) : ItIn B w zeroIt none 0 := ⟨⟨by simp [zeroIt], by simp [zeroIt]⟩, 0, [], rfl, ⟨Sl.nil _ _ _ _ _, fun p hp => absurd hp List.not_mem_nil, .inl (Nat.le_refl _), Nat.le_of_lt h, Nat.le_of_lt h, by simp [allL]⟩⟩
theorem zeroPth (B : Nat) (w : World) (h : B < w.heap.size) : Pth B (B + 1) (B + 1) w (.slice none 0 0) [] := ⟨Sl.nil _ _ _ _ _, Nat.le_refl _, h⟩
theorem zero_leaf {d : Nat} {T : Int → List It → List Int → Tr d} {u : V} : leafP d T zeroIt (([] : List IH).map (·.1)) [] u = (u, false, Tr.none d) := leafP_plain (.inr (by simp [withinP, zeroIt]))
theorem region_meetIn {P : Program} {F : Fence} {m : Nat} {ops : Array Oper} {id : Nat} {dr : Bool} {Q : Exit → Act → World → Prop} {a0 : Act} {w : World} {ι : Type} (ds : ι → List (Tmp × Value)) (Fs : ι → World → Prop)
    (h1 : (Code.region id ops dr).wpIn F m P (MeetPost ds Fs a0) a0 w)
    (h2 : ∀ i w', Fs i w' → Q .normal ((ds i).foldl (fun a p => a.put (some p.1) p.2) a0) w') : (Code.region id ops dr).wpIn F m P Q a0 w :=
  wpIn_mono h1 (fun e a w' h => by
    cases e with
    | normal => obtain ⟨i, rfl, hf⟩ := h; exact h2 i w' hf
    | _ => exact h.elim)
set_option maxRecDepth 100000 in
set_option maxHeartbeats 16000000 in
theorem branch_any (d : Nat) (hT : PTree d) (B M hA D lo hi lo2 hi2 : Nat) (lv av : Value) (fs : List Ft) (ats : List Attr) (n e : Int) (x : It) (xp : Option Addr) (xc : Nat) (ps : List IH) (path : List Int) (v pv : Value) (w : World)
    (hP : PulX B M hA w lv av fs ats n) (hx : ItIn B w x xp xc) (hp : Pat B D lo hi w v ps) (hpa : Pth B lo2 hi2 w pv path) (hF : Fit fs ats (d + 1) n path) (hfine : (finePat (ps.map (·.1)) = true ∧ x ∈ ps.map (·.1) ∧ x.wild = false) ∨ (x.nested = false ∧ x.rc = 0)) (R : Ending → World → Prop)
    (hR : ∀ w' n' a l c, Only (· = B) w w' → Blk w' B [lv, .map (some M), av, .int .i64 n', .bool (decide (10000 < n'))] 49 → LOut d w.heap.size w' n n' (.slice a l c) (leavesP fs ats d (treeP fs ats d) e x (ps.map (·.1)) path) → R (.returned (.agg #[.string ⟨x.attr.toArray⟩, .bool x.back, .slice a l c])) w') :
    Calls Try.prog 24 #[.pointer (some ⟨B, 0, none⟩), .int .i64 e, .agg #[.bool x.wild, .string ⟨x.attr.toArray⟩, .bool x.back, .int .i64 x.limit, .bool x.has, .int .i64 x.dflt.kind, .int .i64 x.dflt.n, .string ⟨x.dflt.s.toArray⟩, .bool x.nested, .slice xp x.sub.length xc, .int .i64 x.rc], v, pv] w R := by
  have HR := Lib.hid hR
  have HP := Lib.hid hP
  have Hx := Lib.hid hx
  have Hp := Lib.hid hp
  have Hpa := Lib.hid hpa
  have HF := Lib.hid hF
  have Hfine := Lib.hid hfine
  have hn0 := hF.n0
  have hn1 := hF.n1
  have hd1 := hF.d1
  have hBb := hP.blk.lt
  obtain ⟨ap, cp, rfl, -⟩ := hp.sl.form
  obtain ⟨aq, cq, rfl, -⟩ := hpa.sl.form
  obtain ⟨wx1, ew0⟩ : ∃ zz, zz = w.alloc (.cells #[.pointer (some ⟨B, 0, none⟩)] 46) := ⟨_, rfl⟩
  have sx0 : wx1.heap.size = w.heap.size + 1 := by rw [ew0]; simp
  have hX0 : Below w.heap.size w wx1 := by rw [ew0]; exact alloc_below _ _
  have k0 : Blk wx1 (w.heap.size) [.pointer (some ⟨B, 0, none⟩)] 46 := by rw [ew0]; exact Blk.new w [.pointer (some ⟨B, 0, none⟩)] _ rfl
  obtain ⟨wx2, ew1⟩ : ∃ zz, zz = wx1.alloc (.cells #[.bool x.wild, .string ⟨x.attr.toArray⟩, .bool x.back, .int .i64 x.limit, .bool x.has, .int .i64 x.dflt.kind, .int .i64 x.dflt.n, .string ⟨x.dflt.s.toArray⟩, .bool x.nested, .slice xp x.sub.length xc, .int .i64 x.rc] 66) := ⟨_, rfl⟩
  have sx1 : wx2.heap.size = w.heap.size + 1 + 1 := by rw [ew1]; simp [sx0]
  have hX1 : Below wx1.heap.size wx1 wx2 := by rw [ew1]; exact alloc_below _ _
  have k1 : Blk wx2 (w.heap.size + 1) [.bool x.wild, .string ⟨x.attr.toArray⟩, .bool x.back, .int .i64 x.limit, .bool x.has, .int .i64 x.dflt.kind, .int .i64 x.dflt.n, .string ⟨x.dflt.s.toArray⟩, .bool x.nested, .slice xp x.sub.length xc, .int .i64 x.rc] 66 := by rw [ew1]; exact Blk.new wx1 [.bool x.wild, .string ⟨x.attr.toArray⟩, .bool x.back, .int .i64 x.limit, .bool x.has, .int .i64 x.dflt.kind, .int .i64 x.dflt.n, .string ⟨x.dflt.s.toArray⟩, .bool x.nested, .slice xp x.sub.length xc, .int .i64 x.rc] _ sx0.symm
  obtain ⟨wx3, ew2⟩ : ∃ zz, zz = wx2.alloc (.cells #[.slice ap ps.length cp] 24) := ⟨_, rfl⟩
  have sx2 : wx3.heap.size = w.heap.size + 1 + 1 + 1 := by rw [ew2]; simp [sx1]
  have hX2 : Below wx2.heap.size wx2 wx3 := by rw [ew2]; exact alloc_below _ _
  have k2 : Blk wx3 (w.heap.size + 1 + 1) [.slice ap ps.length cp] 24 := by rw [ew2]; exact Blk.new wx2 [.slice ap ps.length cp] _ sx1.symm
  obtain ⟨wx4, ew3⟩ : ∃ zz, zz = wx3.alloc (.cells #[.slice aq path.length cq] 53) := ⟨_, rfl⟩
  have sx3 : wx4.heap.size = w.heap.size + 1 + 1 + 1 + 1 := by rw [ew3]; simp [sx2]
  have hX3 : Below wx3.heap.size wx3 wx4 := by rw [ew3]; exact alloc_below _ _
  have k3 : Blk wx4 (w.heap.size + 1 + 1 + 1) [.slice aq path.length cq] 53 := by rw [ew3]; exact Blk.new wx3 [.slice aq path.length cq] _ sx2.symm
  obtain ⟨w1, ew4⟩ : ∃ zz, zz = wx4.alloc (.cells #[.string ⟨#[]⟩, .bool false, .slice none 0 0] 62) := ⟨_, rfl⟩
  have sx4 : w1.heap.size = w.heap.size + 1 + 1 + 1 + 1 + 1 := by rw [ew4]; simp [sx3]
  have hX4 : Below wx4.heap.size wx4 w1 := by rw [ew4]; exact alloc_below _ _
  have k4 : Blk w1 (w.heap.size + 1 + 1 + 1 + 1) [.string ⟨#[]⟩, .bool false, .slice none 0 0] 62 := by rw [ew4]; exact Blk.new wx4 [.string ⟨#[]⟩, .bool false, .slice none 0 0] _ sx3.symm
  replace k0 := k0.below hX1 (by omega)
  replace k0 := k0.below hX2 (by omega)
  replace k0 := k0.below hX3 (by omega)
  replace k0 := k0.below hX4 (by omega)
  replace k1 := k1.below hX2 (by omega)
  replace k1 := k1.below hX3 (by omega)
  replace k1 := k1.below hX4 (by omega)
  replace k2 := k2.below hX3 (by omega)
  replace k2 := k2.below hX4 (by omega)
  replace k3 := k3.below hX4 (by omega)
  have hXB : Below w.heap.size w w1 := ((((hX0).trans (hX1.mono (by omega))).trans (hX2.mono (by omega))).trans (hX3.mono (by omega))).trans (hX4.mono (by omega))
  have hXz : w1.heap.size = w.heap.size + 1 + 1 + 1 + 1 + 1 := sx4
  clear hR hP hx hp hpa hF hfine
  refine (callsIn_wide (n := 3)).1 (callsIn_of_wp_marks Try.func24 rfl trivial ?_ rfl)
  refine wpIn_wide.2 ?_
  simp only [Try.ntmps24, List.size_toArray, List.length_cons, Nat.reduceAdd, Nat.reduceSub, Array.replicate_succ, Array.replicate_zero, List.push_toArray, List.append_toArray, List.nil_append, List.cons_append, List.length_nil]
  go_upto_region 1 with fail
  rw [← ew0, ← ew1, ← ew2, ← ew3, ← ew4]
  clear ew0 sx0 hX0 ew1 sx1 hX1 ew2 sx2 hX2 ew3 sx3 hX3 ew4 sx4 hX4
  obtain ⟨q0, eq0⟩ : ∃ b, b = w.heap.size := ⟨_, rfl⟩
  rw [← eq0] at k0 k1 k2 k3 k4 ⊢
  obtain ⟨q1, eq1⟩ : ∃ b, b = q0 + 1 := ⟨_, rfl⟩
  rw [← eq1] at k1 k2 k3 k4 ⊢
  obtain ⟨q2, eq2⟩ : ∃ b, b = q1 + 1 := ⟨_, rfl⟩
  rw [← eq2] at k2 k3 k4 ⊢
  obtain ⟨q3, eq3⟩ : ∃ b, b = q2 + 1 := ⟨_, rfl⟩
  rw [← eq3] at k3 k4 ⊢
  obtain ⟨q4, eq4⟩ : ∃ b, b = q3 + 1 := ⟨_, rfl⟩
  rw [← eq4] at k4 ⊢
  have hw1 := hXB.size
  have hq : w.heap.size ≤ q0 ∧ w.heap.size ≤ q1 ∧ w.heap.size ≤ q2 ∧ w.heap.size ≤ q3 ∧ w.heap.size ≤ q4 := by omega
  have hq9 : q0 < q1 ∧ q1 < q2 ∧ q2 < q3 ∧ q3 < q4 ∧ q4 < w1.heap.size := by omega
  have Hq := Lib.hid hq
  have Hq9 := Lib.hid hq9
  have K0 := Lib.hid k0
  have K1 := Lib.hid k1
  have K2 := Lib.hid k2
  have K3 := Lib.hid k3
  have K4 := Lib.hid k4
  have HB1 := Lib.hid hXB
  obtain ⟨x0, x1, x2, x3, x4, x5, x6, x7, x8, x9, x10⟩ := item_cells k1.cells
  simp only [Nat.zero_add] at x1 x2
  have hbB := alloc_below w1 (.cells #[.string ⟨x.attr.toArray⟩, .bool x.back, .slice none 0 0] 62)
  have hbb := Blk.new w1 [.string ⟨x.attr.toArray⟩, .bool x.back, .slice none 0 0] 62 rfl
  clear k0 k1 k2 k3 k4 eq0 eq1 eq2 eq3 eq4 hq hq9 x0 x3 x4 x5 x6 x7 x8 x9 x10 hXB hXz
  refine wp_scope_straight ?_
  go_wp2_with fail
  refine wp_label ?_
  generalize w1.alloc (.cells #[.string ⟨x.attr.toArray⟩, .bool x.back, .slice none 0 0] 62) = wb at *
  obtain ⟨bb, ebb⟩ : ∃ b, b = w1.heap.size := ⟨_, rfl⟩
  rw [← ebb] at hbb ⊢
  have hwbb : w1.heap.size ≤ bb := Nat.le_of_eq ebb.symm
  clear ebb
  have hbbl := hbb.lt
  have hzb := hbB.size
  have HBb := Lib.hid (HB1.out.trans (hbB.mono hw1))
  have Hbb := Lib.hid hbb
  have H1b := Lib.hid hbB
  have k0 := (K0.out.below hbB K0.out.lt).cells.c1
  have k1 := K1.out.below hbB K1.out.lt
  obtain ⟨x0, x1, x2, x3, x4, x5, x6, x7, x8, x9, x10⟩ := item_cells k1.cells
  simp only [Nat.zero_add] at x1 x2 x3 x4 x5 x6 x7 x8 x9 x10
  have HPb := Lib.hid (HP.out.below HBb.out)
  clear k1 hbb hbB
  go_wp2_with fail
  refine pValues_any B M hA lv av fs ats n e x xp xc wb HPb.out Hx.out.lens _ (fun W4 r3 r7 r5 r4 hB4 hr3 hr7 hr5 hr4 hk3 hk7 hk5 hk4 => ?_)
  have hz4 := hB4.size
  have HBw4 := Lib.hid (HBb.out.trans (hB4.mono HBb.out.size))
  have Hrs := Lib.hid (And.intro hr3 (And.intro hr7 (And.intro hr5 hr4)))
  have Hk3 := Lib.hid hk3
  have Hk7 := Lib.hid hk7
  have Hk5 := Lib.hid hk5
  have Hk4 := Lib.hid hk4
  have HB4 := Lib.hid hB4
  clear hB4 hr3 hr7 hr5 hr4 hk3 hk7 hk5 hk4 k0 x0 x1 x2 x3 x4 x5 x6 x7 x8 x9 x10
  go_wp2_with fail
  refine wp_rangeFuncR 2 (gf := 71) rfl (enters_of Try.func71 (by kernel_rfl) rfl) (fun fn RL hRL => ?_)
  have HRL := Lib.hid hRL
  clear hRL
  have hB5 : Below W4.heap.size W4 ((W4.alloc (.deferred (some []))).alloc (.loop (RL .ready none))) := ((Below.refl _ _).alloc (Nat.le_refl _) _).alloc (by simp) _
  have hlD : ((W4.alloc (.deferred (some []))).alloc (.loop (RL .ready none))).heap[W4.heap.size]? = some (.deferred (some [])) := (Below.heap_alloc _ _ _ (by simp)).trans (World.alloc_heap_new W4 _)
  have hlL : ((W4.alloc (.deferred (some []))).alloc (.loop (RL .ready none))).heap[W4.heap.size + 1]? = some (.loop (RL .ready none)) := by
    have := World.alloc_heap_new (W4.alloc (.deferred (some []))) (.loop (RL .ready none))
    rwa [World.size_alloc] at this
  generalize (W4.alloc (.deferred (some []))).alloc (.loop (RL .ready none)) = w2 at *
  obtain ⟨Db, eDb⟩ : ∃ z, z = W4.heap.size := ⟨_, rfl⟩
  obtain ⟨L, eL⟩ : ∃ z, z = W4.heap.size + 1 := ⟨_, rfl⟩
  have hLz := heap_lt hlL
  rw [← eL] at hlL hLz ⊢
  rw [← eDb] at hlD ⊢
  have HlL := Lib.hid hlL
  have HlD := Lib.hid hlD
  have hDL : Db < L ∧ W4.heap.size ≤ Db := by omega
  clear eDb eL
  have HBw2 := Lib.hid (HBw4.out.trans (hB5.mono (by omega)))
  have HB2b : Hid (Below wb.heap.size wb w2) := Lib.hid (HB4.out.trans (hB5.mono hz4))
  have hz2 := HB2b.out.size
  have HP2 := Lib.hid (HP.out.below HBw2.out)
  have hm3 := Hk3.out.below hB5 Hk3.out.lt
  have hm7 := Hk7.out.below hB5 Hk7.out.lt
  have hm5 := Hk5.out.below hB5 Hk5.out.lt
  have hm4 := Hk4.out.below hB5 Hk4.out.lt
  have hr3l := Hk3.out.lt
  have hr7l := Hk7.out.lt
  have hr5l := Hk5.out.lt
  have hr4l := Hk4.out.lt
  have Hm3 := Lib.hid hm3
  have Hm7 := Lib.hid hm7
  have Hm5 := Lib.hid hm5
  have Hm4 := Lib.hid hm4
  have Hq0 : Hid (∀ W, Only (fun k => k = B ∨ k = bb ∨ k = L) w2 W → Blk W q0 [.pointer (some ⟨B, 0, none⟩)] 46 ∧ Blk W q1 [.bool x.wild, .string ⟨x.attr.toArray⟩, .bool x.back, .int .i64 x.limit, .bool x.has, .int .i64 x.dflt.kind, .int .i64 x.dflt.n, .string ⟨x.dflt.s.toArray⟩, .bool x.nested, .slice xp x.sub.length xc, .int .i64 x.rc] 66 ∧ Blk W q2 [.slice ap ps.length cp] 24 ∧ Blk W q3 [.slice aq path.length cq] 53 ∧ Blk W q4 [.string ⟨#[]⟩, .bool false, .slice none 0 0] 62 ∧ W.heap[Db]? = some (.deferred (some []))) := Lib.hid (fun W hO => by
    have hq := Hq.out
    have hq9 := Hq9.out
    have hB12 : Below w1.heap.size w1 w2 := H1b.out.trans (HB2b.out.mono hzb)
    have t0 := K0.out.below hB12 K0.out.lt
    have t1 := K1.out.below hB12 K1.out.lt
    have t2 := K2.out.below hB12 K2.out.lt
    have t3 := K3.out.below hB12 K3.out.lt
    have t4 := K4.out.below hB12 K4.out.lt
    exact ⟨hO.blk t0 (by omega), hO.blk t1 (by omega), hO.blk t2 (by omega), hO.blk t3 (by omega), hO.blk t4 (by omega), (hO.block Db (by omega) (by omega)).trans HlD.out⟩)
  obtain ⟨vs, hvs⟩ : ∃ vs, vs = valuesP fs ats e x := ⟨_, rfl⟩
  have Hvs := Lib.hid hvs
  have hvl : vs.length ≤ 2000000000000 := by have h2 := valuesP_len fs ats e x; have h3 := HF.out.fsl; rw [← hvs] at h2; omega
  obtain ⟨pl, hpl⟩ : ∃ pl, pl = (cutP x vs).map (leafP d (treeP fs ats d) x (ps.map (·.1)) path) := ⟨_, rfl⟩
  have Hpl := Lib.hid hpl
  have Hcut : Hid (pl.length ≤ vs.length ∧ (∀ i u, vs[i]? = some u → i ≤ pl.length → (∃ h : i < pl.length, (0 < x.limit → (i : Int) ≠ x.limit) ∧ leafP d (treeP fs ats d) x (ps.map (·.1)) path u = pl[i]) ∨ (i = pl.length ∧ 0 < x.limit ∧ (i : Int) = x.limit))) := Lib.hid (by
    have hlen : pl.length = (cutP x vs).length := by rw [hpl, List.length_map]
    refine ⟨by rw [hlen]; exact cutP_len x vs, fun i u hu hi => ?_⟩
    obtain ⟨hiv, hiu⟩ := List.getElem?_eq_some_iff.1 hu
    by_cases hlt : i < pl.length
    · left
      refine ⟨hlt, fun hl => ?_, ?_⟩
      · rw [hlen] at hlt
        unfold cutP at hlt
        rw [if_pos hl, List.length_take] at hlt
        omega
      · simp only [hpl, List.getElem_map]
        congr 1
        rw [← hiu]
        unfold cutP
        split
        · simp
        · rfl
    · right
      have hie : i = pl.length := by omega
      refine ⟨hie, ?_⟩
      rw [hlen] at hie
      unfold cutP at hie
      split at hie
      · rename_i hl
        rw [List.length_take] at hie
        exact ⟨hl, by omega⟩
      · omega)
  have Hvend : Hid (∀ i, i = vs.length → i ≤ pl.length → i = pl.length) := Lib.hid (fun i h1 h2 => by have := Hcut.out.1; omega)
  clear hvs hpl
  obtain ⟨J, hJ⟩ : ∃ J : Nat → World → Prop, J = fun i W => ∃ n1 hv qs, BSt d B M bb L lv av n x.attr x.back pl w2 W i n1 hv qs ∧ W.heap[L]? = some (.loop (RL .ready none)) := ⟨_, rfl⟩
  obtain ⟨Z, hZ⟩ : ∃ Z : World → Prop, Z = fun W => ∃ i n1 hv qs, BSt d B M bb L lv av n x.attr x.back pl w2 W i n1 hv qs ∧ (10000 < n1 ∨ i = pl.length) ∧ W.heap[L]? = some (.loop (RL .done (some (.exit 0)))) := ⟨_, rfl⟩
  have HJ := Lib.hid hJ
  have HZ := Lib.hid hZ
  have hBz2 : B < w2.heap.size := by omega
  have Hbbz : Hid (bb < w2.heap.size) := Lib.hid (by omega)
  have Hbne : Hid (bb ≠ B) := Lib.hid (by omega)
  have HLne : Hid (L ≠ B ∧ L ≠ bb) := Lib.hid (by omega)
  have hJ0 : J 0 w2 := by
    rw [hJ]
    exact ⟨n, .slice none 0 0, [], ⟨Only.refl _ _, HP2.out.blk, Hbb.out.below HB2b.out Hbb.out.lt, Own.nil _ _ _ _ _, rfl, Nat.zero_le _, Int.le_refl _, by omega, fun _ => ⟨by simp [lfsSize], by simp, KeptAt.nil⟩, fun h => by simp [lfsSize] at h; omega⟩, HlL.out⟩
  clear hJ hZ hB5 hlD hlL
  refine (vals1_any 1 L r3 r7 r5 r4 B 0 B fs ats e x xp xc lv J Z w2 ?hJF ?hJB ?hY hJ0).mono ?hend
  case hJF =>
    intro i W h
    rw [HJ.out] at h
    obtain ⟨n1, hv, qs, hst, hlp⟩ := h
    have hrs := Hrs.out
    have hO := hst.only
    refine ⟨hO.blk Hm3.out (by omega), hO.blk Hm7.out (by omega), hO.blk Hm5.out (by omega), hO.blk Hm4.out (by omega), ?_, Sl.agree HP2.out.facts ftE_loc (hO.agree (by omega) (fun k e => by omega)), by have := hO.size; omega⟩
    have := hst.blk.cells 0 _ rfl
    simpa using this
  case hJB =>
    intro i W W' h hB
    rw [HJ.out] at h ⊢
    obtain ⟨n1, hv, qs, hst, hlp⟩ := h
    exact ⟨n1, hv, qs, hst.below hB, (hB.block _ (heap_lt hlp)).trans hlp⟩
  case hY =>
    intro i W u h hu
    have hjj := h
    rw [HJ.out] at h
    obtain ⟨n1, hv, qs, hst, hlp⟩ := h
    have hWz := hst.only.size
    have hBu := alloc_below W (.cells #[.int .i64 u.kind, .int .i64 u.n, .string ⟨u.s.toArray⟩] 39)
    have hbu := Blk.new W [.int .i64 u.kind, .int .i64 u.n, .string ⟨u.s.toArray⟩] 39 rfl
    have hlp2 := (hBu.block _ (heap_lt hlp)).trans hlp
    refine yieldAt_recR HRL.out hlp rfl ?_
    clear hjj
    gi_wp2_with fail
    refine ⟨hlp2, ?_⟩
    generalize W.alloc (.cells #[.int .i64 u.kind, .int .i64 u.n, .string ⟨u.s.toArray⟩] 39) = Wu at *
    obtain ⟨bu, ebu⟩ : ∃ b, b = W.heap.size := ⟨_, rfl⟩
    rw [← ebu] at hbu ⊢
    have hLu := heap_lt hlp2
    have hWu := hBu.size
    have ho3 : Only (· = L) Wu (Wu.putObj L (.loop (RL .busy none))) := Only.putObj (A := (· = L)) Wu (b := L) rfl _
    have hl3 : (Wu.putObj L (.loop (RL .busy none))).heap[L]? = some (.loop (RL .busy none)) := World.putObj_heap_same hLu
    generalize Wu.putObj L (.loop (RL .busy none)) = W3 at *
    have hz3 := ho3.size
    have Hst3 := Lib.hid ((hst.below hBu).loop ho3 HLne.out.1 HLne.out.2 hLz)
    have Hbu := Lib.hid (ho3.blk hbu (by omega))
    have HownW := Lib.hid hst.own
    obtain ⟨p9, c9, rfl⟩ := Own.slice hst.own
    obtain ⟨hq0, hq1, hq2, hq3, hq4, hDf⟩ := Hq0.out W3 Hst3.out.only
    have Hl3 := Lib.hid hl3
    have hnle := Hst3.out.le
    have hnge := Hst3.out.ge
    have Hqlen : Hid (qs.length ≤ 2000000000000) := Lib.hid (by have h1 := Hst3.out.len; have h2 := Hst3.out.ile; have h3 := Hcut.out.1; omega)
    have Hq0b := Lib.hid hq0
    have Hq1 := Lib.hid hq1
    have Hq2 := Lib.hid hq2
    have Hq3 := Lib.hid hq3
    have Hu := Lib.hid hu
    have k0 := hq0.cells.c1
    have yg := Hst3.out.blk.cells 4 _ rfl
    have yb := Hst3.out.box.cells 2 _ rfl
    obtain ⟨x0, x1, x2, x3, x4, x5, x6, x7, x8, x9, x10⟩ := item_cells hq1.cells
    simp only [Nat.zero_add] at x3 yg yb
    have HuW : Hid (bu = W.heap.size) := Lib.hid ebu
    have Hwn : Hid (∀ k, Value.ownBlock (.slice p9 qs.length c9) = some k → w2.heap.size ≤ k ∧ k < bu) := Lib.hid (fun k hk => by have := Own.lt HownW.out k hk; omega)
    clear hst hlp hlp2 hBu hbu ho3 hl3 hq0 hq1 hq2 hq3 hq4 hDf hu ebu x0 x1 x2 x4 x5 x6 x7 x8 x9 x10
    obtain ⟨g, hg⟩ : ∃ g, g = decide (10000 < n1) := ⟨_, rfl⟩
    rw [← hg] at yg
    have Hg := Lib.hid hg
    clear hg
    have Hstop : Hid (10000 < n1 ∨ i = pl.length → ∀ W', W'.heap[L]? = some (.loop (RL .done (some (.exit 0)))) → Only (· = L) W3 W' → Z W') := Lib.hid (fun h W' hl hO => by
      rw [HZ.out]
      exact ⟨i, n1, _, qs, Hst3.out.loop hO HLne.out.1 HLne.out.2 hLz, h, hl⟩)
    have hL3 : L < W3.heap.size := heap_lt Hl3.out
    cases g with
    | true =>
      have hgr : (10000 : Int) < n1 := by simpa using Hg.out.symm
      gi_wp2_with fail
      all_goals try (rename_i bq h1 h2; exact absurd h1 (undef_ne bq))
      refine roundPost_exitR HRL.out Hl3.out ?_
      exact .inr ⟨rfl, Hstop.out (.inl hgr) _ (World.putObj_heap_same hL3) (Only.putObj (A := (· = L)) _ (b := L) rfl _)⟩
    | false =>
      have hgr0 : ¬ (10000 : Int) < n1 := by simpa using Hg.out.symm
      have hgr : n1 ≤ 10000 := by omega
      rcases Hcut.out.2 i u (by rw [Hvs.out]; exact Hu.out) Hst3.out.ile with ⟨hil, hlim, hlf⟩ | ⟨hie, hl0, hli⟩
      · obtain ⟨U, hU⟩ : ∃ U, U = pl[i] := ⟨_, rfl⟩
        rw [← hU] at hlf
        have HUi : Hid (pl[i]? = some U) := Lib.hid (by rw [hU]; exact List.getElem?_eq_getElem hil)
        clear hU hil
        have HU : Hid (leafP d (treeP fs ats d) x (ps.map (·.1)) path u = U) := Lib.hid hlf
        have HU1 : Hid (U.1 = u) := Lib.hid (by
          rw [← hlf]
          unfold leafP
          split
          · split <;> rfl
          · rfl)
        have hO23 := Hst3.out.only
        have HX3 : Hid (PulX B M hA W3.drew lv av fs ats n1) := Lib.hid ((HP2.out.turnA (n' := n1) hO23 Hst3.out.blk (fun k e => by have := HP.out.le; omega) (by have := HP.out.ne; have := HP.out.names.lt; omega)).below ((Below.refl _ _).drew))
        have HOw : Hid (Only (· = B) w W3.drew) := Lib.hid (((Below.only HBw2.out).join (A := fun k => k = B ∨ k = bb ∨ k = L) hO23 (fun k hk e => by omega)).trans (Only.drew W3))
        have Hx3 := Lib.hid (Hx.out.turn HOw.out)
        have Hp3 := Lib.hid (Hp.out.turn HOw.out)
        have Hpa3 := Lib.hid (Hpa.out.turn HOw.out)
        have HF3 : Hid (Fit fs ats (d + 1) n1 path) := Lib.hid ⟨HF.out.fsl, HF.out.atl, HF.out.names, HF.out.lns, by omega, hgr, by have := HF.out.d0; omega, hd1, HF.out.pth⟩
        have Hst3d := Lib.hid (Hst3.out.below (W' := W3.drew) (Below.refl _ _).drew)
        have Hst3h : Hid (Only (fun k => k = B ∨ k = bb ∨ Value.ownBlock (.slice p9 qs.length c9) = some k) W3 W3.drew) := Lib.hid (Only.drew W3)
        have Hq0 := Hq0b
        have hqs := Hq.out
        have hqs9 := Hq9.out
        have Hnq0 : Hid (¬ (q0 = B ∨ q0 = bb ∨ Value.ownBlock (.slice p9 qs.length c9) = some q0)) := Lib.hid (by rintro (h | h | h); omega; omega; have := (Hwn.out _ h).1; omega)
        have Hnq1 : Hid (¬ (q1 = B ∨ q1 = bb ∨ Value.ownBlock (.slice p9 qs.length c9) = some q1)) := Lib.hid (by rintro (h | h | h); omega; omega; have := (Hwn.out _ h).1; omega)
        have Hnq2 : Hid (¬ (q2 = B ∨ q2 = bb ∨ Value.ownBlock (.slice p9 qs.length c9) = some q2)) := Lib.hid (by rintro (h | h | h); omega; omega; have := (Hwn.out _ h).1; omega)
        have Hnq3 : Hid (¬ (q3 = B ∨ q3 = bb ∨ Value.ownBlock (.slice p9 qs.length c9) = some q3)) := Lib.hid (by rintro (h | h | h); omega; omega; have := (Hwn.out _ h).1; omega)
        have Hnbu : Hid (¬ (bu = B ∨ bu = bb ∨ Value.ownBlock (.slice p9 qs.length c9) = some bu)) := Lib.hid (by have := HuW.out; rintro (h | h | h); omega; omega; have := (Hwn.out _ h).2; omega)
        have HownLt : Hid (Value.ownBlock (.slice p9 qs.length c9) ≠ some L) := Lib.hid (fun h => by have := (Hwn.out _ h).1; omega)
        clear hlf hqs hqs9 hO23
        have Hlim := Lib.hid hlim
        clear hlim
        by_cases hl0 : 0 < x.limit
        · have hln : ((qs.length : Int) == x.limit) = false := by
            have h1 := Hst3.out.len
            have h2 := Hlim.out hl0
            simpa [h1] using h2
          gi_upto_region 5 with fail
          all_goals try (rename_i bq h1 h2; exact absurd h1 (undef_ne bq))
          refine region_meetIn (ι := Int × Bool × Option Addr × Nat × Nat × Nat × Value) (fun ⟨n2, inb, ta, tl, tc, bn, v8⟩ => [(40, .pointer (some ⟨bb, 2, none⟩)), (41, .slice p9 qs.length c9), (42, .pointer (some ⟨B, 0, none⟩)), (43, .agg #[.int .i64 (u.kind), .int .i64 (u.n), .string ⟨u.s.toArray⟩]), (44, .agg #[.bool x.wild, .string ⟨x.attr.toArray⟩, .bool x.back, .int .i64 (x.limit), .bool x.has, .int .i64 (x.dflt.kind), .int .i64 (x.dflt.n), .string ⟨x.dflt.s.toArray⟩, .bool x.nested, .slice xp x.sub.length xc, .int .i64 (x.rc)]), (45, .slice ap ps.length cp), (46, .slice aq path.length cq), (47, .agg #[.int .i64 u.kind, .int .i64 u.n, .string ⟨u.s.toArray⟩, .bool inb, .slice ta tl tc]), (48, .slice (some ⟨bn, 0, none⟩) 1 1), (49, v8), (50, .pointer (some ⟨bb, 2, none⟩))]) (fun ⟨n2, inb, ta, tl, tc, bn, v8⟩ w' => Only (fun k => k = B ∨ k = bb ∨ Value.ownBlock (.slice p9 qs.length c9) = some k) W3 w' ∧ Hid (BSt d B M bb L lv av n x.attr x.back pl w2 w' (i + 1) n2 v8 (qs ++ [((u, inb, U.2.2), (⟨ta, tl, tc⟩ : HD))]))) ?_ ?_
          · refine wpIn_region_held (S := fun w' => Only (fun k => k = B ∨ k = bb ∨ Value.ownBlock (.slice p9 qs.length c9) = some k) W3 w') (by kernel_rfl) (by rintro ⟨a, w, h⟩; exact h) (by kernel_rfl) Hst3h.out (fun hHeld => ?_)
            refine wpAnyH_take (i := 0) (v := .pointer (some ⟨bb, 2, none⟩)) rfl (by kernel_rfl) (by kernel_rfl) (by kernel_rfl) (fun _ _ _ h => h) (Or.inl ⟨by rfl, ?_⟩) hHeld ?_
            · intro w' hSw; go_simp
            try simp only [ν1, ν2, ν3, ν4, ν5, ν6, ν7, ν8]
            refine wpAnyH_take (i := 2) (v := .pointer (some ⟨B, 0, none⟩)) rfl (by kernel_rfl) (by kernel_rfl) (by kernel_rfl) (fun _ _ _ h => h) (Or.inl ⟨by rfl, ?_⟩) hHeld ?_
            · intro w' hSw; have k0 := (hSw.blk Hq0.out Hnq0.out).cells.c1; go_simp
            try simp only [ν1, ν2, ν3, ν4, ν5, ν6, ν7, ν8]
            refine wpAnyH_take (i := 3) (v := .agg #[.int .i64 (u.kind), .int .i64 (u.n), .string ⟨u.s.toArray⟩]) rfl (by kernel_rfl) (by kernel_rfl) (by kernel_rfl) (fun _ _ _ h => h) (Or.inl ⟨by rfl, ?_⟩) hHeld ?_
            · intro w' hSw; obtain ⟨j0, j1, j2⟩ := value_cells (hSw.blk Hbu.out Hnbu.out).cells; simp only [Nat.zero_add] at j1 j2; go_simp
            try simp only [ν1, ν2, ν3, ν4, ν5, ν6, ν7, ν8]
            refine wpAnyH_take (i := 4) (v := .agg #[.bool x.wild, .string ⟨x.attr.toArray⟩, .bool x.back, .int .i64 (x.limit), .bool x.has, .int .i64 (x.dflt.kind), .int .i64 (x.dflt.n), .string ⟨x.dflt.s.toArray⟩, .bool x.nested, .slice xp x.sub.length xc, .int .i64 (x.rc)]) rfl (by kernel_rfl) (by kernel_rfl) (by kernel_rfl) (fun _ _ _ h => h) (Or.inl ⟨by rfl, ?_⟩) hHeld ?_
            · intro w' hSw; obtain ⟨j0, j1, j2, j3, j4, j5, j6, j7, j8, j9, j10⟩ := item_cells (hSw.blk Hq1.out Hnq1.out).cells; simp only [Nat.zero_add] at j1 j2 j3 j4 j5 j6 j7 j8 j9 j10; go_simp
            try simp only [ν1, ν2, ν3, ν4, ν5, ν6, ν7, ν8]
            refine wpAnyH_take (i := 5) (v := .slice ap ps.length cp) rfl (by kernel_rfl) (by kernel_rfl) (by kernel_rfl) (fun _ _ _ h => h) (Or.inl ⟨by rfl, ?_⟩) hHeld ?_
            · intro w' hSw; have k0 := (hSw.blk Hq2.out Hnq2.out).cells.c1; go_simp
            try simp only [ν1, ν2, ν3, ν4, ν5, ν6, ν7, ν8]
            refine wpAnyH_take (i := 6) (v := .slice aq path.length cq) rfl (by kernel_rfl) (by kernel_rfl) (by kernel_rfl) (fun _ _ _ h => h) (Or.inl ⟨by rfl, ?_⟩) hHeld ?_
            · intro w' hSw; have k0 := (hSw.blk Hq3.out Hnq3.out).cells.c1; go_simp
            try simp only [ν1, ν2, ν3, ν4, ν5, ν6, ν7, ν8]
            refine wpAnyH_ready (rs := [1, 7]) (by kernel_rfl) (by simp) ?_
            refine allVal (v := .slice p9 qs.length c9) (w' := W3.drew) rfl (by kernel_rfl) (by have kc := Hst3.out.box.cells; have k2 := kc 2 _ rfl; simp only [Nat.zero_add] at k2; go_simp) hHeld ?_ ?_
            · try simp only [ν1, ν2, ν3, ν4, ν5, ν6, ν7, ν8]
              refine wpAnyH_ready (rs := [7]) (by kernel_rfl) (by simp) ?_
              refine allCall (f := 48) (args := #[.pointer (some ⟨B, 0, none⟩), .agg #[.int .i64 u.kind, .int .i64 u.n, .string ⟨u.s.toArray⟩], .agg #[.bool x.wild, .string ⟨x.attr.toArray⟩, .bool x.back, .int .i64 x.limit, .bool x.has, .int .i64 x.dflt.kind, .int .i64 x.dflt.n, .string ⟨x.dflt.s.toArray⟩, .bool x.nested, .slice xp x.sub.length xc, .int .i64 x.rc], .slice ap ps.length cp, .slice aq path.length cq]) rfl (by kernel_rfl) (by kernel_rfl) ?_ AllReadyH.nil
              refine leaf_any d hT B M hA D lo hi lo2 hi2 lv av fs ats n1 u x xp xc ps path _ _ W3.drew HX3.out Hx3.out Hp3.out Hpa3.out HF3.out Hfine.out _ (fun w4 n2 inb ta tl tc hO4 hb4 hl4 => ?_)
              rw [HU.out] at hl4
              have hH4 : Only (fun k => k = B ∨ k = bb ∨ Value.ownBlock (.slice p9 qs.length c9) = some k) W3 w4 := hHeld.trans (hO4.mono (fun _ _ e => .inl e))
              refine ⟨_, rfl, hH4, ?_⟩
              clear hHeld
              have hHeld := hH4
              clear hH4
              have hbx1 := hO4.blk Hst3.out.box Hbne.out
              have hown1 := Own.turn Hst3d.out.own hO4 hBz2
              have hz4 : W3.heap.size ≤ w4.heap.size := hO4.size
              try simp only [ν1, ν2, ν3, ν4, ν5, ν6, ν7, ν8]
              refine wpAnyH_ready (rs := [8]) (by kernel_rfl) (by simp) ?_
              have hH5 : Only (fun k => k = B ∨ k = bb ∨ Value.ownBlock (.slice p9 qs.length c9) = some k) W3 (w4.alloc (.cells #[.int .i64 u.kind, .int .i64 u.n, .string ⟨u.s.toArray⟩, .bool inb, .slice ta tl tc] 64)) := hHeld.trans (Only.alloc w4 _)
              refine allVal (v := .slice (some ⟨w4.heap.size, 0, none⟩) 1 1) (w' := w4.alloc (.cells #[.int .i64 u.kind, .int .i64 u.n, .string ⟨u.s.toArray⟩, .bool inb, .slice ta tl tc] 64)) rfl (by kernel_rfl) (by go_simp) hH5 ?_ AllReadyH.nil
              clear hHeld
              have hHeld := hH5
              clear hH5
              have hbx2 := hbx1.below (alloc_below w4 (.cells #[.int .i64 u.kind, .int .i64 u.n, .string ⟨u.s.toArray⟩, .bool inb, .slice ta tl tc] 64)) hbx1.lt
              obtain ⟨bn, ebn⟩ : ∃ b, b = w4.heap.size := ⟨_, rfl⟩
              rw [← ebn]
              try simp only [ν1, ν2, ν3, ν4, ν5, ν6, ν7, ν8]
              refine wpAnyH_ready (rs := [9]) (by kernel_rfl) (by simp) ?_
              obtain ⟨v8, w8, hr8, ho8, ha8⟩ := app_one Try.underlying60 infoL rfl LH.len LH.one hown1 ((u, inb, U.2.2), (⟨ta, tl, tc⟩ : HD)) (n := bn) ebn (by have := Hst3.out.len; have := Hqlen.out; omega) (by decide) (by omega)
              simp only [LH.enc] at hr8
              have hH8 : Only (fun k => k = B ∨ k = bb ∨ Value.ownBlock (.slice p9 qs.length c9) = some k) W3 w8 := (Only.trans Hst3h.out (hO4.mono (fun _ _ e => .inl e))).trans (ha8.only.mono (fun _ _ e => .inr (.inr e)))
              refine allVal (v := v8) (w' := w8) rfl (by kernel_rfl) (execApp hr8 rfl rfl rfl) hH8 ?_ AllReadyH.nil
              clear hHeld hr8 hbx2
              have hHeld := hH8
              clear hH8
              have hbx8 := ha8.blk hbx1 (fun e => by have := (Own.lt hown1 _ e).1; have := Hbbz.out; omega)
              try simp only [ν1, ν2, ν3, ν4, ν5, ν6, ν7, ν8]
              refine wpAnyH_take (i := 10) (v := .pointer (some ⟨bb, 2, none⟩)) rfl (by kernel_rfl) (by kernel_rfl) (by kernel_rfl) (fun _ _ _ h => h) (Or.inl ⟨by rfl, ?_⟩) hHeld ?_
              · intro w' hSw; go_simp
              try simp only [ν1, ν2, ν3, ν4, ν5, ν6, ν7, ν8]
              refine wpAnyH_ready (rs := [11]) (by kernel_rfl) (by simp) ?_
              obtain ⟨p8, c8, e8⟩ := Own.slice ho8
              have zc := hbx8.cells 2 _ rfl
              simp only [Nat.zero_add] at zc
              have zl := hbx8.lt
              have zf := hbx8.free 2
              have hH9 : Only (fun k => k = B ∨ k = bb ∨ Value.ownBlock (.slice p9 qs.length c9) = some k) W3 (w8.setCell ⟨bb, 2, none⟩ v8) := hHeld.trans (Only.setCell (A := (fun k => k = B ∨ k = bb ∨ Value.ownBlock (.slice p9 qs.length c9) = some k)) w8 (p := ⟨bb, 2, none⟩) (.inr (.inl rfl)) _)
              refine allSkip (w' := (w8.setCell ⟨bb, 2, none⟩ v8)) rfl (by kernel_rfl) (by rw [e8]; go_simp) hH9 ?_ AllReadyH.nil
              have Hst9 := Lib.hid (BSt.leaf (u := u) Hst3d.out HUi.out hgr hBz2 Hbbz.out Hbne.out (HU1.out) hO4 hb4 hl4 ho8 ha8)
              clear hHeld zc zl zf e8
              have hHeld := hH9
              clear hH9
              try simp only [ν1, ν2, ν3, ν4, ν5, ν6, ν7, ν8]
              refine wpAnyH_done (by kernel_rfl) ?_ _
              exact ⟨⟨n2, inb, ta, tl, tc, bn, v8⟩, by kernel_rfl, hHeld, Hst9⟩
            refine allCall (f := 48) (args := #[.pointer (some ⟨B, 0, none⟩), .agg #[.int .i64 u.kind, .int .i64 u.n, .string ⟨u.s.toArray⟩], .agg #[.bool x.wild, .string ⟨x.attr.toArray⟩, .bool x.back, .int .i64 x.limit, .bool x.has, .int .i64 x.dflt.kind, .int .i64 x.dflt.n, .string ⟨x.dflt.s.toArray⟩, .bool x.nested, .slice xp x.sub.length xc, .int .i64 x.rc], .slice ap ps.length cp, .slice aq path.length cq]) rfl (by kernel_rfl) (by kernel_rfl) ?_ AllReadyH.nil
            refine leaf_any d hT B M hA D lo hi lo2 hi2 lv av fs ats n1 u x xp xc ps path _ _ W3.drew HX3.out Hx3.out Hp3.out Hpa3.out HF3.out Hfine.out _ (fun w4 n2 inb ta tl tc hO4 hb4 hl4 => ?_)
            rw [HU.out] at hl4
            have hH4 : Only (fun k => k = B ∨ k = bb ∨ Value.ownBlock (.slice p9 qs.length c9) = some k) W3 w4 := hHeld.trans (hO4.mono (fun _ _ e => .inl e))
            refine ⟨_, rfl, hH4, ?_⟩
            clear hHeld
            have hHeld := hH4
            clear hH4
            have hbx1 := hO4.blk Hst3.out.box Hbne.out
            have hown1 := Own.turn Hst3d.out.own hO4 hBz2
            have hz4 : W3.heap.size ≤ w4.heap.size := hO4.size
            try simp only [ν1, ν2, ν3, ν4, ν5, ν6, ν7, ν8]
            refine wpAnyH_ready (rs := [1, 8]) (by kernel_rfl) (by simp) ?_
            refine allVal (v := .slice p9 qs.length c9) (w' := w4) rfl (by kernel_rfl) (by have kc := hbx1.cells; have k2 := kc 2 _ rfl; simp only [Nat.zero_add] at k2; go_simp) hHeld ?_ ?_
            · try simp only [ν1, ν2, ν3, ν4, ν5, ν6, ν7, ν8]
              refine wpAnyH_ready (rs := [8]) (by kernel_rfl) (by simp) ?_
              have hH5 : Only (fun k => k = B ∨ k = bb ∨ Value.ownBlock (.slice p9 qs.length c9) = some k) W3 (w4.alloc (.cells #[.int .i64 u.kind, .int .i64 u.n, .string ⟨u.s.toArray⟩, .bool inb, .slice ta tl tc] 64)) := hHeld.trans (Only.alloc w4 _)
              refine allVal (v := .slice (some ⟨w4.heap.size, 0, none⟩) 1 1) (w' := w4.alloc (.cells #[.int .i64 u.kind, .int .i64 u.n, .string ⟨u.s.toArray⟩, .bool inb, .slice ta tl tc] 64)) rfl (by kernel_rfl) (by go_simp) hH5 ?_ AllReadyH.nil
              clear hHeld
              have hHeld := hH5
              clear hH5
              have hbx2 := hbx1.below (alloc_below w4 (.cells #[.int .i64 u.kind, .int .i64 u.n, .string ⟨u.s.toArray⟩, .bool inb, .slice ta tl tc] 64)) hbx1.lt
              obtain ⟨bn, ebn⟩ : ∃ b, b = w4.heap.size := ⟨_, rfl⟩
              rw [← ebn]
              try simp only [ν1, ν2, ν3, ν4, ν5, ν6, ν7, ν8]
              refine wpAnyH_ready (rs := [9]) (by kernel_rfl) (by simp) ?_
              obtain ⟨v8, w8, hr8, ho8, ha8⟩ := app_one Try.underlying60 infoL rfl LH.len LH.one hown1 ((u, inb, U.2.2), (⟨ta, tl, tc⟩ : HD)) (n := bn) ebn (by have := Hst3.out.len; have := Hqlen.out; omega) (by decide) (by omega)
              simp only [LH.enc] at hr8
              have hH8 : Only (fun k => k = B ∨ k = bb ∨ Value.ownBlock (.slice p9 qs.length c9) = some k) W3 w8 := (Only.trans Hst3h.out (hO4.mono (fun _ _ e => .inl e))).trans (ha8.only.mono (fun _ _ e => .inr (.inr e)))
              refine allVal (v := v8) (w' := w8) rfl (by kernel_rfl) (execApp hr8 rfl rfl rfl) hH8 ?_ AllReadyH.nil
              clear hHeld hr8 hbx2
              have hHeld := hH8
              clear hH8
              have hbx8 := ha8.blk hbx1 (fun e => by have := (Own.lt hown1 _ e).1; have := Hbbz.out; omega)
              try simp only [ν1, ν2, ν3, ν4, ν5, ν6, ν7, ν8]
              refine wpAnyH_take (i := 10) (v := .pointer (some ⟨bb, 2, none⟩)) rfl (by kernel_rfl) (by kernel_rfl) (by kernel_rfl) (fun _ _ _ h => h) (Or.inl ⟨by rfl, ?_⟩) hHeld ?_
              · intro w' hSw; go_simp
              try simp only [ν1, ν2, ν3, ν4, ν5, ν6, ν7, ν8]
              refine wpAnyH_ready (rs := [11]) (by kernel_rfl) (by simp) ?_
              obtain ⟨p8, c8, e8⟩ := Own.slice ho8
              have zc := hbx8.cells 2 _ rfl
              simp only [Nat.zero_add] at zc
              have zl := hbx8.lt
              have zf := hbx8.free 2
              have hH9 : Only (fun k => k = B ∨ k = bb ∨ Value.ownBlock (.slice p9 qs.length c9) = some k) W3 (w8.setCell ⟨bb, 2, none⟩ v8) := hHeld.trans (Only.setCell (A := (fun k => k = B ∨ k = bb ∨ Value.ownBlock (.slice p9 qs.length c9) = some k)) w8 (p := ⟨bb, 2, none⟩) (.inr (.inl rfl)) _)
              refine allSkip (w' := (w8.setCell ⟨bb, 2, none⟩ v8)) rfl (by kernel_rfl) (by rw [e8]; go_simp) hH9 ?_ AllReadyH.nil
              have Hst9 := Lib.hid (BSt.leaf (u := u) Hst3d.out HUi.out hgr hBz2 Hbbz.out Hbne.out (HU1.out) hO4 hb4 hl4 ho8 ha8)
              clear hHeld zc zl zf e8
              have hHeld := hH9
              clear hH9
              try simp only [ν1, ν2, ν3, ν4, ν5, ν6, ν7, ν8]
              refine wpAnyH_done (by kernel_rfl) ?_ _
              exact ⟨⟨n2, inb, ta, tl, tc, bn, v8⟩, by kernel_rfl, hHeld, Hst9⟩
            have hH5 : Only (fun k => k = B ∨ k = bb ∨ Value.ownBlock (.slice p9 qs.length c9) = some k) W3 (w4.alloc (.cells #[.int .i64 u.kind, .int .i64 u.n, .string ⟨u.s.toArray⟩, .bool inb, .slice ta tl tc] 64)) := hHeld.trans (Only.alloc w4 _)
            refine allVal (v := .slice (some ⟨w4.heap.size, 0, none⟩) 1 1) (w' := w4.alloc (.cells #[.int .i64 u.kind, .int .i64 u.n, .string ⟨u.s.toArray⟩, .bool inb, .slice ta tl tc] 64)) rfl (by kernel_rfl) (by go_simp) hH5 ?_ AllReadyH.nil
            clear hHeld
            have hHeld := hH5
            clear hH5
            have hbx2 := hbx1.below (alloc_below w4 (.cells #[.int .i64 u.kind, .int .i64 u.n, .string ⟨u.s.toArray⟩, .bool inb, .slice ta tl tc] 64)) hbx1.lt
            obtain ⟨bn, ebn⟩ : ∃ b, b = w4.heap.size := ⟨_, rfl⟩
            rw [← ebn]
            try simp only [ν1, ν2, ν3, ν4, ν5, ν6, ν7, ν8]
            refine wpAnyH_ready (rs := [1]) (by kernel_rfl) (by simp) ?_
            refine allVal (v := .slice p9 qs.length c9) (w' := (w4.alloc (.cells #[.int .i64 u.kind, .int .i64 u.n, .string ⟨u.s.toArray⟩, .bool inb, .slice ta tl tc] 64))) rfl (by kernel_rfl) (by have kc := hbx2.cells; have k2 := kc 2 _ rfl; simp only [Nat.zero_add] at k2; go_simp) hHeld ?_ AllReadyH.nil
            try simp only [ν1, ν2, ν3, ν4, ν5, ν6, ν7, ν8]
            refine wpAnyH_ready (rs := [9]) (by kernel_rfl) (by simp) ?_
            obtain ⟨v8, w8, hr8, ho8, ha8⟩ := app_one Try.underlying60 infoL rfl LH.len LH.one hown1 ((u, inb, U.2.2), (⟨ta, tl, tc⟩ : HD)) (n := bn) ebn (by have := Hst3.out.len; have := Hqlen.out; omega) (by decide) (by omega)
            simp only [LH.enc] at hr8
            have hH8 : Only (fun k => k = B ∨ k = bb ∨ Value.ownBlock (.slice p9 qs.length c9) = some k) W3 w8 := (Only.trans Hst3h.out (hO4.mono (fun _ _ e => .inl e))).trans (ha8.only.mono (fun _ _ e => .inr (.inr e)))
            refine allVal (v := v8) (w' := w8) rfl (by kernel_rfl) (execApp hr8 rfl rfl rfl) hH8 ?_ AllReadyH.nil
            clear hHeld hr8 hbx2
            have hHeld := hH8
            clear hH8
            have hbx8 := ha8.blk hbx1 (fun e => by have := (Own.lt hown1 _ e).1; have := Hbbz.out; omega)
            try simp only [ν1, ν2, ν3, ν4, ν5, ν6, ν7, ν8]
            refine wpAnyH_take (i := 10) (v := .pointer (some ⟨bb, 2, none⟩)) rfl (by kernel_rfl) (by kernel_rfl) (by kernel_rfl) (fun _ _ _ h => h) (Or.inl ⟨by rfl, ?_⟩) hHeld ?_
            · intro w' hSw; go_simp
            try simp only [ν1, ν2, ν3, ν4, ν5, ν6, ν7, ν8]
            refine wpAnyH_ready (rs := [11]) (by kernel_rfl) (by simp) ?_
            obtain ⟨p8, c8, e8⟩ := Own.slice ho8
            have zc := hbx8.cells 2 _ rfl
            simp only [Nat.zero_add] at zc
            have zl := hbx8.lt
            have zf := hbx8.free 2
            have hH9 : Only (fun k => k = B ∨ k = bb ∨ Value.ownBlock (.slice p9 qs.length c9) = some k) W3 (w8.setCell ⟨bb, 2, none⟩ v8) := hHeld.trans (Only.setCell (A := (fun k => k = B ∨ k = bb ∨ Value.ownBlock (.slice p9 qs.length c9) = some k)) w8 (p := ⟨bb, 2, none⟩) (.inr (.inl rfl)) _)
            refine allSkip (w' := (w8.setCell ⟨bb, 2, none⟩ v8)) rfl (by kernel_rfl) (by rw [e8]; go_simp) hH9 ?_ AllReadyH.nil
            have Hst9 := Lib.hid (BSt.leaf (u := u) Hst3d.out HUi.out hgr hBz2 Hbbz.out Hbne.out (HU1.out) hO4 hb4 hl4 ho8 ha8)
            clear hHeld zc zl zf e8
            have hHeld := hH9
            clear hH9
            try simp only [ν1, ν2, ν3, ν4, ν5, ν6, ν7, ν8]
            refine wpAnyH_done (by kernel_rfl) ?_ _
            exact ⟨⟨n2, inb, ta, tl, tc, bn, v8⟩, by kernel_rfl, hHeld, Hst9⟩
          rintro ⟨n2, inb, ta, tl, tc, bn, v8⟩ w9 ⟨hO9, Hst9⟩
          simp only [List.foldl_cons, List.foldl_nil]
          try simp only [ν1, ν2, ν3, ν4, ν5, ν6, ν7, ν8]
          have hl9 : w9.heap[L]? = some (.loop (RL .busy none)) := (hO9.block L hL3 (by rintro (h | h | h); exact HLne.out.1 h; exact HLne.out.2 h; exact HownLt.out h)).trans Hl3.out
          have Hl9 := Lib.hid hl9
          have hL9 : L < w9.heap.size := heap_lt hl9
          clear hl9 hO9 k0 yg yb x3
          gi_wp2_with fail
          refine roundPost_normalR HRL.out Hl9.out ?_
          refine .inl ⟨rfl, ?_⟩
          rw [HJ.out]
          exact ⟨n2, v8, _, Hst9.out.loop (Only.putObj (A := (· = L)) _ (b := L) rfl _) HLne.out.1 HLne.out.2 hLz, World.putObj_heap_same hL9⟩
        · have hl00 := hl0
          gi_upto_region 5 with fail
          all_goals try (rename_i bq h1 h2; exact absurd h1 (undef_ne bq))
          refine region_meetIn (ι := Int × Bool × Option Addr × Nat × Nat × Nat × Value) (fun ⟨n2, inb, ta, tl, tc, bn, v8⟩ => [(40, .pointer (some ⟨bb, 2, none⟩)), (41, .slice p9 qs.length c9), (42, .pointer (some ⟨B, 0, none⟩)), (43, .agg #[.int .i64 (u.kind), .int .i64 (u.n), .string ⟨u.s.toArray⟩]), (44, .agg #[.bool x.wild, .string ⟨x.attr.toArray⟩, .bool x.back, .int .i64 (x.limit), .bool x.has, .int .i64 (x.dflt.kind), .int .i64 (x.dflt.n), .string ⟨x.dflt.s.toArray⟩, .bool x.nested, .slice xp x.sub.length xc, .int .i64 (x.rc)]), (45, .slice ap ps.length cp), (46, .slice aq path.length cq), (47, .agg #[.int .i64 u.kind, .int .i64 u.n, .string ⟨u.s.toArray⟩, .bool inb, .slice ta tl tc]), (48, .slice (some ⟨bn, 0, none⟩) 1 1), (49, v8), (50, .pointer (some ⟨bb, 2, none⟩))]) (fun ⟨n2, inb, ta, tl, tc, bn, v8⟩ w' => Only (fun k => k = B ∨ k = bb ∨ Value.ownBlock (.slice p9 qs.length c9) = some k) W3 w' ∧ Hid (BSt d B M bb L lv av n x.attr x.back pl w2 w' (i + 1) n2 v8 (qs ++ [((u, inb, U.2.2), (⟨ta, tl, tc⟩ : HD))]))) ?_ ?_
          · refine wpIn_region_held (S := fun w' => Only (fun k => k = B ∨ k = bb ∨ Value.ownBlock (.slice p9 qs.length c9) = some k) W3 w') (by kernel_rfl) (by rintro ⟨a, w, h⟩; exact h) (by kernel_rfl) Hst3h.out (fun hHeld => ?_)
            refine wpAnyH_take (i := 0) (v := .pointer (some ⟨bb, 2, none⟩)) rfl (by kernel_rfl) (by kernel_rfl) (by kernel_rfl) (fun _ _ _ h => h) (Or.inl ⟨by rfl, ?_⟩) hHeld ?_
            · intro w' hSw; go_simp
            try simp only [ν1, ν2, ν3, ν4, ν5, ν6, ν7, ν8]
            refine wpAnyH_take (i := 2) (v := .pointer (some ⟨B, 0, none⟩)) rfl (by kernel_rfl) (by kernel_rfl) (by kernel_rfl) (fun _ _ _ h => h) (Or.inl ⟨by rfl, ?_⟩) hHeld ?_
            · intro w' hSw; have k0 := (hSw.blk Hq0.out Hnq0.out).cells.c1; go_simp
            try simp only [ν1, ν2, ν3, ν4, ν5, ν6, ν7, ν8]
            refine wpAnyH_take (i := 3) (v := .agg #[.int .i64 (u.kind), .int .i64 (u.n), .string ⟨u.s.toArray⟩]) rfl (by kernel_rfl) (by kernel_rfl) (by kernel_rfl) (fun _ _ _ h => h) (Or.inl ⟨by rfl, ?_⟩) hHeld ?_
            · intro w' hSw; obtain ⟨j0, j1, j2⟩ := value_cells (hSw.blk Hbu.out Hnbu.out).cells; simp only [Nat.zero_add] at j1 j2; go_simp
            try simp only [ν1, ν2, ν3, ν4, ν5, ν6, ν7, ν8]
            refine wpAnyH_take (i := 4) (v := .agg #[.bool x.wild, .string ⟨x.attr.toArray⟩, .bool x.back, .int .i64 (x.limit), .bool x.has, .int .i64 (x.dflt.kind), .int .i64 (x.dflt.n), .string ⟨x.dflt.s.toArray⟩, .bool x.nested, .slice xp x.sub.length xc, .int .i64 (x.rc)]) rfl (by kernel_rfl) (by kernel_rfl) (by kernel_rfl) (fun _ _ _ h => h) (Or.inl ⟨by rfl, ?_⟩) hHeld ?_
            · intro w' hSw; obtain ⟨j0, j1, j2, j3, j4, j5, j6, j7, j8, j9, j10⟩ := item_cells (hSw.blk Hq1.out Hnq1.out).cells; simp only [Nat.zero_add] at j1 j2 j3 j4 j5 j6 j7 j8 j9 j10; go_simp
            try simp only [ν1, ν2, ν3, ν4, ν5, ν6, ν7, ν8]
            refine wpAnyH_take (i := 5) (v := .slice ap ps.length cp) rfl (by kernel_rfl) (by kernel_rfl) (by kernel_rfl) (fun _ _ _ h => h) (Or.inl ⟨by rfl, ?_⟩) hHeld ?_
            · intro w' hSw; have k0 := (hSw.blk Hq2.out Hnq2.out).cells.c1; go_simp
            try simp only [ν1, ν2, ν3, ν4, ν5, ν6, ν7, ν8]
            refine wpAnyH_take (i := 6) (v := .slice aq path.length cq) rfl (by kernel_rfl) (by kernel_rfl) (by kernel_rfl) (fun _ _ _ h => h) (Or.inl ⟨by rfl, ?_⟩) hHeld ?_
            · intro w' hSw; have k0 := (hSw.blk Hq3.out Hnq3.out).cells.c1; go_simp
            try simp only [ν1, ν2, ν3, ν4, ν5, ν6, ν7, ν8]
            refine wpAnyH_ready (rs := [1, 7]) (by kernel_rfl) (by simp) ?_
            refine allVal (v := .slice p9 qs.length c9) (w' := W3.drew) rfl (by kernel_rfl) (by have kc := Hst3.out.box.cells; have k2 := kc 2 _ rfl; simp only [Nat.zero_add] at k2; go_simp) hHeld ?_ ?_
            · try simp only [ν1, ν2, ν3, ν4, ν5, ν6, ν7, ν8]
              refine wpAnyH_ready (rs := [7]) (by kernel_rfl) (by simp) ?_
              refine allCall (f := 48) (args := #[.pointer (some ⟨B, 0, none⟩), .agg #[.int .i64 u.kind, .int .i64 u.n, .string ⟨u.s.toArray⟩], .agg #[.bool x.wild, .string ⟨x.attr.toArray⟩, .bool x.back, .int .i64 x.limit, .bool x.has, .int .i64 x.dflt.kind, .int .i64 x.dflt.n, .string ⟨x.dflt.s.toArray⟩, .bool x.nested, .slice xp x.sub.length xc, .int .i64 x.rc], .slice ap ps.length cp, .slice aq path.length cq]) rfl (by kernel_rfl) (by kernel_rfl) ?_ AllReadyH.nil
              refine leaf_any d hT B M hA D lo hi lo2 hi2 lv av fs ats n1 u x xp xc ps path _ _ W3.drew HX3.out Hx3.out Hp3.out Hpa3.out HF3.out Hfine.out _ (fun w4 n2 inb ta tl tc hO4 hb4 hl4 => ?_)
              rw [HU.out] at hl4
              have hH4 : Only (fun k => k = B ∨ k = bb ∨ Value.ownBlock (.slice p9 qs.length c9) = some k) W3 w4 := hHeld.trans (hO4.mono (fun _ _ e => .inl e))
              refine ⟨_, rfl, hH4, ?_⟩
              clear hHeld
              have hHeld := hH4
              clear hH4
              have hbx1 := hO4.blk Hst3.out.box Hbne.out
              have hown1 := Own.turn Hst3d.out.own hO4 hBz2
              have hz4 : W3.heap.size ≤ w4.heap.size := hO4.size
              try simp only [ν1, ν2, ν3, ν4, ν5, ν6, ν7, ν8]
              refine wpAnyH_ready (rs := [8]) (by kernel_rfl) (by simp) ?_
              have hH5 : Only (fun k => k = B ∨ k = bb ∨ Value.ownBlock (.slice p9 qs.length c9) = some k) W3 (w4.alloc (.cells #[.int .i64 u.kind, .int .i64 u.n, .string ⟨u.s.toArray⟩, .bool inb, .slice ta tl tc] 64)) := hHeld.trans (Only.alloc w4 _)
              refine allVal (v := .slice (some ⟨w4.heap.size, 0, none⟩) 1 1) (w' := w4.alloc (.cells #[.int .i64 u.kind, .int .i64 u.n, .string ⟨u.s.toArray⟩, .bool inb, .slice ta tl tc] 64)) rfl (by kernel_rfl) (by go_simp) hH5 ?_ AllReadyH.nil
              clear hHeld
              have hHeld := hH5
              clear hH5
              have hbx2 := hbx1.below (alloc_below w4 (.cells #[.int .i64 u.kind, .int .i64 u.n, .string ⟨u.s.toArray⟩, .bool inb, .slice ta tl tc] 64)) hbx1.lt
              obtain ⟨bn, ebn⟩ : ∃ b, b = w4.heap.size := ⟨_, rfl⟩
              rw [← ebn]
              try simp only [ν1, ν2, ν3, ν4, ν5, ν6, ν7, ν8]
              refine wpAnyH_ready (rs := [9]) (by kernel_rfl) (by simp) ?_
              obtain ⟨v8, w8, hr8, ho8, ha8⟩ := app_one Try.underlying60 infoL rfl LH.len LH.one hown1 ((u, inb, U.2.2), (⟨ta, tl, tc⟩ : HD)) (n := bn) ebn (by have := Hst3.out.len; have := Hqlen.out; omega) (by decide) (by omega)
              simp only [LH.enc] at hr8
              have hH8 : Only (fun k => k = B ∨ k = bb ∨ Value.ownBlock (.slice p9 qs.length c9) = some k) W3 w8 := (Only.trans Hst3h.out (hO4.mono (fun _ _ e => .inl e))).trans (ha8.only.mono (fun _ _ e => .inr (.inr e)))
              refine allVal (v := v8) (w' := w8) rfl (by kernel_rfl) (execApp hr8 rfl rfl rfl) hH8 ?_ AllReadyH.nil
              clear hHeld hr8 hbx2
              have hHeld := hH8
              clear hH8
              have hbx8 := ha8.blk hbx1 (fun e => by have := (Own.lt hown1 _ e).1; have := Hbbz.out; omega)
              try simp only [ν1, ν2, ν3, ν4, ν5, ν6, ν7, ν8]
              refine wpAnyH_take (i := 10) (v := .pointer (some ⟨bb, 2, none⟩)) rfl (by kernel_rfl) (by kernel_rfl) (by kernel_rfl) (fun _ _ _ h => h) (Or.inl ⟨by rfl, ?_⟩) hHeld ?_
              · intro w' hSw; go_simp
              try simp only [ν1, ν2, ν3, ν4, ν5, ν6, ν7, ν8]
              refine wpAnyH_ready (rs := [11]) (by kernel_rfl) (by simp) ?_
              obtain ⟨p8, c8, e8⟩ := Own.slice ho8
              have zc := hbx8.cells 2 _ rfl
              simp only [Nat.zero_add] at zc
              have zl := hbx8.lt
              have zf := hbx8.free 2
              have hH9 : Only (fun k => k = B ∨ k = bb ∨ Value.ownBlock (.slice p9 qs.length c9) = some k) W3 (w8.setCell ⟨bb, 2, none⟩ v8) := hHeld.trans (Only.setCell (A := (fun k => k = B ∨ k = bb ∨ Value.ownBlock (.slice p9 qs.length c9) = some k)) w8 (p := ⟨bb, 2, none⟩) (.inr (.inl rfl)) _)
              refine allSkip (w' := (w8.setCell ⟨bb, 2, none⟩ v8)) rfl (by kernel_rfl) (by rw [e8]; go_simp) hH9 ?_ AllReadyH.nil
              have Hst9 := Lib.hid (BSt.leaf (u := u) Hst3d.out HUi.out hgr hBz2 Hbbz.out Hbne.out (HU1.out) hO4 hb4 hl4 ho8 ha8)
              clear hHeld zc zl zf e8
              have hHeld := hH9
              clear hH9
              try simp only [ν1, ν2, ν3, ν4, ν5, ν6, ν7, ν8]
              refine wpAnyH_done (by kernel_rfl) ?_ _
              exact ⟨⟨n2, inb, ta, tl, tc, bn, v8⟩, by kernel_rfl, hHeld, Hst9⟩
            refine allCall (f := 48) (args := #[.pointer (some ⟨B, 0, none⟩), .agg #[.int .i64 u.kind, .int .i64 u.n, .string ⟨u.s.toArray⟩], .agg #[.bool x.wild, .string ⟨x.attr.toArray⟩, .bool x.back, .int .i64 x.limit, .bool x.has, .int .i64 x.dflt.kind, .int .i64 x.dflt.n, .string ⟨x.dflt.s.toArray⟩, .bool x.nested, .slice xp x.sub.length xc, .int .i64 x.rc], .slice ap ps.length cp, .slice aq path.length cq]) rfl (by kernel_rfl) (by kernel_rfl) ?_ AllReadyH.nil
            refine leaf_any d hT B M hA D lo hi lo2 hi2 lv av fs ats n1 u x xp xc ps path _ _ W3.drew HX3.out Hx3.out Hp3.out Hpa3.out HF3.out Hfine.out _ (fun w4 n2 inb ta tl tc hO4 hb4 hl4 => ?_)
            rw [HU.out] at hl4
            have hH4 : Only (fun k => k = B ∨ k = bb ∨ Value.ownBlock (.slice p9 qs.length c9) = some k) W3 w4 := hHeld.trans (hO4.mono (fun _ _ e => .inl e))
            refine ⟨_, rfl, hH4, ?_⟩
            clear hHeld
            have hHeld := hH4
            clear hH4
            have hbx1 := hO4.blk Hst3.out.box Hbne.out
            have hown1 := Own.turn Hst3d.out.own hO4 hBz2
            have hz4 : W3.heap.size ≤ w4.heap.size := hO4.size
            try simp only [ν1, ν2, ν3, ν4, ν5, ν6, ν7, ν8]
            refine wpAnyH_ready (rs := [1, 8]) (by kernel_rfl) (by simp) ?_
            refine allVal (v := .slice p9 qs.length c9) (w' := w4) rfl (by kernel_rfl) (by have kc := hbx1.cells; have k2 := kc 2 _ rfl; simp only [Nat.zero_add] at k2; go_simp) hHeld ?_ ?_
            · try simp only [ν1, ν2, ν3, ν4, ν5, ν6, ν7, ν8]
              refine wpAnyH_ready (rs := [8]) (by kernel_rfl) (by simp) ?_
              have hH5 : Only (fun k => k = B ∨ k = bb ∨ Value.ownBlock (.slice p9 qs.length c9) = some k) W3 (w4.alloc (.cells #[.int .i64 u.kind, .int .i64 u.n, .string ⟨u.s.toArray⟩, .bool inb, .slice ta tl tc] 64)) := hHeld.trans (Only.alloc w4 _)
              refine allVal (v := .slice (some ⟨w4.heap.size, 0, none⟩) 1 1) (w' := w4.alloc (.cells #[.int .i64 u.kind, .int .i64 u.n, .string ⟨u.s.toArray⟩, .bool inb, .slice ta tl tc] 64)) rfl (by kernel_rfl) (by go_simp) hH5 ?_ AllReadyH.nil
              clear hHeld
              have hHeld := hH5
              clear hH5
              have hbx2 := hbx1.below (alloc_below w4 (.cells #[.int .i64 u.kind, .int .i64 u.n, .string ⟨u.s.toArray⟩, .bool inb, .slice ta tl tc] 64)) hbx1.lt
              obtain ⟨bn, ebn⟩ : ∃ b, b = w4.heap.size := ⟨_, rfl⟩
              rw [← ebn]
              try simp only [ν1, ν2, ν3, ν4, ν5, ν6, ν7, ν8]
              refine wpAnyH_ready (rs := [9]) (by kernel_rfl) (by simp) ?_
              obtain ⟨v8, w8, hr8, ho8, ha8⟩ := app_one Try.underlying60 infoL rfl LH.len LH.one hown1 ((u, inb, U.2.2), (⟨ta, tl, tc⟩ : HD)) (n := bn) ebn (by have := Hst3.out.len; have := Hqlen.out; omega) (by decide) (by omega)
              simp only [LH.enc] at hr8
              have hH8 : Only (fun k => k = B ∨ k = bb ∨ Value.ownBlock (.slice p9 qs.length c9) = some k) W3 w8 := (Only.trans Hst3h.out (hO4.mono (fun _ _ e => .inl e))).trans (ha8.only.mono (fun _ _ e => .inr (.inr e)))
              refine allVal (v := v8) (w' := w8) rfl (by kernel_rfl) (execApp hr8 rfl rfl rfl) hH8 ?_ AllReadyH.nil
              clear hHeld hr8 hbx2
              have hHeld := hH8
              clear hH8
              have hbx8 := ha8.blk hbx1 (fun e => by have := (Own.lt hown1 _ e).1; have := Hbbz.out; omega)
              try simp only [ν1, ν2, ν3, ν4, ν5, ν6, ν7, ν8]
              refine wpAnyH_take (i := 10) (v := .pointer (some ⟨bb, 2, none⟩)) rfl (by kernel_rfl) (by kernel_rfl) (by kernel_rfl) (fun _ _ _ h => h) (Or.inl ⟨by rfl, ?_⟩) hHeld ?_
              · intro w' hSw; go_simp
              try simp only [ν1, ν2, ν3, ν4, ν5, ν6, ν7, ν8]
              refine wpAnyH_ready (rs := [11]) (by kernel_rfl) (by simp) ?_
              obtain ⟨p8, c8, e8⟩ := Own.slice ho8
              have zc := hbx8.cells 2 _ rfl
              simp only [Nat.zero_add] at zc
              have zl := hbx8.lt
              have zf := hbx8.free 2
              have hH9 : Only (fun k => k = B ∨ k = bb ∨ Value.ownBlock (.slice p9 qs.length c9) = some k) W3 (w8.setCell ⟨bb, 2, none⟩ v8) := hHeld.trans (Only.setCell (A := (fun k => k = B ∨ k = bb ∨ Value.ownBlock (.slice p9 qs.length c9) = some k)) w8 (p := ⟨bb, 2, none⟩) (.inr (.inl rfl)) _)
              refine allSkip (w' := (w8.setCell ⟨bb, 2, none⟩ v8)) rfl (by kernel_rfl) (by rw [e8]; go_simp) hH9 ?_ AllReadyH.nil
              have Hst9 := Lib.hid (BSt.leaf (u := u) Hst3d.out HUi.out hgr hBz2 Hbbz.out Hbne.out (HU1.out) hO4 hb4 hl4 ho8 ha8)
              clear hHeld zc zl zf e8
              have hHeld := hH9
              clear hH9
              try simp only [ν1, ν2, ν3, ν4, ν5, ν6, ν7, ν8]
              refine wpAnyH_done (by kernel_rfl) ?_ _
              exact ⟨⟨n2, inb, ta, tl, tc, bn, v8⟩, by kernel_rfl, hHeld, Hst9⟩
            have hH5 : Only (fun k => k = B ∨ k = bb ∨ Value.ownBlock (.slice p9 qs.length c9) = some k) W3 (w4.alloc (.cells #[.int .i64 u.kind, .int .i64 u.n, .string ⟨u.s.toArray⟩, .bool inb, .slice ta tl tc] 64)) := hHeld.trans (Only.alloc w4 _)
            refine allVal (v := .slice (some ⟨w4.heap.size, 0, none⟩) 1 1) (w' := w4.alloc (.cells #[.int .i64 u.kind, .int .i64 u.n, .string ⟨u.s.toArray⟩, .bool inb, .slice ta tl tc] 64)) rfl (by kernel_rfl) (by go_simp) hH5 ?_ AllReadyH.nil
            clear hHeld
            have hHeld := hH5
            clear hH5
            have hbx2 := hbx1.below (alloc_below w4 (.cells #[.int .i64 u.kind, .int .i64 u.n, .string ⟨u.s.toArray⟩, .bool inb, .slice ta tl tc] 64)) hbx1.lt
            obtain ⟨bn, ebn⟩ : ∃ b, b = w4.heap.size := ⟨_, rfl⟩
            rw [← ebn]
            try simp only [ν1, ν2, ν3, ν4, ν5, ν6, ν7, ν8]
            refine wpAnyH_ready (rs := [1]) (by kernel_rfl) (by simp) ?_
            refine allVal (v := .slice p9 qs.length c9) (w' := (w4.alloc (.cells #[.int .i64 u.kind, .int .i64 u.n, .string ⟨u.s.toArray⟩, .bool inb, .slice ta tl tc] 64))) rfl (by kernel_rfl) (by have kc := hbx2.cells; have k2 := kc 2 _ rfl; simp only [Nat.zero_add] at k2; go_simp) hHeld ?_ AllReadyH.nil
            try simp only [ν1, ν2, ν3, ν4, ν5, ν6, ν7, ν8]
            refine wpAnyH_ready (rs := [9]) (by kernel_rfl) (by simp) ?_
            obtain ⟨v8, w8, hr8, ho8, ha8⟩ := app_one Try.underlying60 infoL rfl LH.len LH.one hown1 ((u, inb, U.2.2), (⟨ta, tl, tc⟩ : HD)) (n := bn) ebn (by have := Hst3.out.len; have := Hqlen.out; omega) (by decide) (by omega)
            simp only [LH.enc] at hr8
            have hH8 : Only (fun k => k = B ∨ k = bb ∨ Value.ownBlock (.slice p9 qs.length c9) = some k) W3 w8 := (Only.trans Hst3h.out (hO4.mono (fun _ _ e => .inl e))).trans (ha8.only.mono (fun _ _ e => .inr (.inr e)))
            refine allVal (v := v8) (w' := w8) rfl (by kernel_rfl) (execApp hr8 rfl rfl rfl) hH8 ?_ AllReadyH.nil
            clear hHeld hr8 hbx2
            have hHeld := hH8
            clear hH8
            have hbx8 := ha8.blk hbx1 (fun e => by have := (Own.lt hown1 _ e).1; have := Hbbz.out; omega)
            try simp only [ν1, ν2, ν3, ν4, ν5, ν6, ν7, ν8]
            refine wpAnyH_take (i := 10) (v := .pointer (some ⟨bb, 2, none⟩)) rfl (by kernel_rfl) (by kernel_rfl) (by kernel_rfl) (fun _ _ _ h => h) (Or.inl ⟨by rfl, ?_⟩) hHeld ?_
            · intro w' hSw; go_simp
            try simp only [ν1, ν2, ν3, ν4, ν5, ν6, ν7, ν8]
            refine wpAnyH_ready (rs := [11]) (by kernel_rfl) (by simp) ?_
            obtain ⟨p8, c8, e8⟩ := Own.slice ho8
            have zc := hbx8.cells 2 _ rfl
            simp only [Nat.zero_add] at zc
            have zl := hbx8.lt
            have zf := hbx8.free 2
            have hH9 : Only (fun k => k = B ∨ k = bb ∨ Value.ownBlock (.slice p9 qs.length c9) = some k) W3 (w8.setCell ⟨bb, 2, none⟩ v8) := hHeld.trans (Only.setCell (A := (fun k => k = B ∨ k = bb ∨ Value.ownBlock (.slice p9 qs.length c9) = some k)) w8 (p := ⟨bb, 2, none⟩) (.inr (.inl rfl)) _)
            refine allSkip (w' := (w8.setCell ⟨bb, 2, none⟩ v8)) rfl (by kernel_rfl) (by rw [e8]; go_simp) hH9 ?_ AllReadyH.nil
            have Hst9 := Lib.hid (BSt.leaf (u := u) Hst3d.out HUi.out hgr hBz2 Hbbz.out Hbne.out (HU1.out) hO4 hb4 hl4 ho8 ha8)
            clear hHeld zc zl zf e8
            have hHeld := hH9
            clear hH9
            try simp only [ν1, ν2, ν3, ν4, ν5, ν6, ν7, ν8]
            refine wpAnyH_done (by kernel_rfl) ?_ _
            exact ⟨⟨n2, inb, ta, tl, tc, bn, v8⟩, by kernel_rfl, hHeld, Hst9⟩
          rintro ⟨n2, inb, ta, tl, tc, bn, v8⟩ w9 ⟨hO9, Hst9⟩
          simp only [List.foldl_cons, List.foldl_nil]
          try simp only [ν1, ν2, ν3, ν4, ν5, ν6, ν7, ν8]
          have hl9 : w9.heap[L]? = some (.loop (RL .busy none)) := (hO9.block L hL3 (by rintro (h | h | h); exact HLne.out.1 h; exact HLne.out.2 h; exact HownLt.out h)).trans Hl3.out
          have Hl9 := Lib.hid hl9
          have hL9 : L < w9.heap.size := heap_lt hl9
          clear hl9 hO9 k0 yg yb x3
          gi_wp2_with fail
          refine roundPost_normalR HRL.out Hl9.out ?_
          refine .inl ⟨rfl, ?_⟩
          rw [HJ.out]
          exact ⟨n2, v8, _, Hst9.out.loop (Only.putObj (A := (· = L)) _ (b := L) rfl _) HLne.out.1 HLne.out.2 hLz, World.putObj_heap_same hL9⟩
      · have hl2 : ((qs.length : Int) == x.limit) = true := by
          have h1 := Hst3.out.len
          simpa [h1] using hli
        have Hie := Lib.hid hie
        clear hie hli
        gi_wp2_with fail
        refine roundPost_exitR HRL.out Hl3.out ?_
        exact .inr ⟨rfl, Hstop.out (.inr Hie.out) _ (World.putObj_heap_same hL3) (Only.putObj (A := (· = L)) _ (b := L) rfl _)⟩
  case hend =>
    rintro e' W6 ⟨⟨v, rfl⟩, hJ | hZ⟩
    · rw [HJ.out] at hJ
      obtain ⟨n1, hv, qs, hst, hlp⟩ := hJ
      obtain ⟨i, hi⟩ : ∃ i, i = (valuesP fs ats e x).length := ⟨_, rfl⟩
      rw [← hi] at hst
      have hfull : 10000 < n1 ∨ i = pl.length := .inr (Hvend.out i (by rw [hi, Hvs.out]) hst.ile)
      refine ⟨⟨v, rfl⟩, .ready, none, by simp, hlp, ?_⟩
      have hlt := heap_lt hlp
      have h7 : Only (· = L) W6 (W6.putObj L (.loop (RL .exhausted none))) := Only.putObj (A := (· = L)) _ (b := L) rfl _
      show Exit.inBlock 0 _ Exit.normal _ (W6.putObj L (.loop (RL .exhausted none)))
      generalize W6.putObj L (.loop (RL .exhausted none)) = W7 at *
      have hst7 := hst.loop h7 HLne.out.1 HLne.out.2 hLz
      clear hst hlp h7 hi hlt
      obtain ⟨p9, c9, rfl⟩ := Own.slice hst7.own
      have HS7 := Lib.hid hst7
      have Hfull := Lib.hid hfull
      have hnle := hst7.le
      have hnge := hst7.ge
      have hO7 := hst7.only
      obtain ⟨hq0, hq1, hq2, hq3, hq4, hDf⟩ := Hq0.out W7 hO7
      have yb := hst7.box.cells 2 _ rfl
      obtain ⟨x0, x1, x2, x3, x4, x5, x6, x7, x8, x9, x10⟩ := item_cells hq1.cells
      simp only [Nat.zero_add] at x4 yb
      have hz7 := hO7.size
      have Hk1 := Lib.hid hq1
      have Hk0 := Lib.hid hq0
      clear hst7 hfull hq0 hq1 hq2 hq3 hq4 hDf hO7 x0 x1 x2 x3 x5 x6 x7 x8 x9 x10
      by_cases h0 : i = 0
      · subst h0
        have hg0 := HS7.out.good (by simp [lfsSize]; omega)
        have hn1e : n1 = n := by have := hg0.1; simpa [lfsSize] using this
        have Hn1e := Lib.hid hn1e
        have Hpl0 : Hid (pl = []) := Lib.hid (by
          rcases Hfull.out with h | h
          · omega
          · exact List.eq_nil_of_length_eq_zero h.symm)
        have Hqn : Hid (qs.length = 0) := Lib.hid HS7.out.len
        have hq0 : ((qs.length : Int) == 0) = true := by rw [HS7.out.len]; rfl
        have HLv : Hid (leavesP fs ats d (treeP fs ats d) e x (ps.map (·.1)) path = if x.has then [(x.dflt, false, Tr.none d)] else []) := Lib.hid (by
          have h := Hpl0.out
          rw [Hpl.out, List.map_eq_nil_iff] at h
          unfold leavesP
          rw [← Hvs.out, if_pos h])
        clear hg0 hn1e
        obtain ⟨hb, hhb⟩ : ∃ hb, hb = x.has := ⟨_, rfl⟩
        rw [← hhb] at x4 HLv
        clear hhb
        cases hb with
        | true =>
          obtain ⟨wz, ewz⟩ : ∃ z, z = W7 := ⟨_, rfl⟩
          subst ewz
          have hgr : n1 ≤ 10000 := by have := Hn1e.out; omega
          have Hst3 := Lib.hid (HS7.out.repl [((x.dflt, false, Tr.none d) : Lf (Tr d))])
          have Hst3d := Lib.hid (Hst3.out.below (W' := wz.drew) (Below.refl _ _).drew)
          have Hst3h : Hid (Only (fun k => k = B ∨ k = bb ∨ Value.ownBlock (.slice p9 qs.length c9) = some k) wz wz.drew) := Lib.hid (Only.drew wz)
          have Hq1 := Hk1
          have Hq0' := Hk0
          have hqs := Hq.out
          have hqs9 := Hq9.out
          have Hwn : Hid (∀ k, Value.ownBlock (.slice p9 qs.length c9) = some k → w2.heap.size ≤ k) := Lib.hid (fun k hk => (Own.lt HS7.out.own k hk).1)
          have Hnq0 : Hid (¬ (q0 = B ∨ q0 = bb ∨ Value.ownBlock (.slice p9 qs.length c9) = some q0)) := Lib.hid (by rintro (h | h | h); omega; omega; have := Hwn.out _ h; omega)
          have Hnq1 : Hid (¬ (q1 = B ∨ q1 = bb ∨ Value.ownBlock (.slice p9 qs.length c9) = some q1)) := Lib.hid (by rintro (h | h | h); omega; omega; have := Hwn.out _ h; omega)
          have HX3 : Hid (PulX B M hA wz.drew lv av fs ats n1) := Lib.hid ((HP2.out.turnA (n' := n1) HS7.out.only HS7.out.blk (fun k e => by have := HP.out.le; omega) (by have := HP.out.ne; have := HP.out.names.lt; omega)).below ((Below.refl _ _).drew))
          have HF3 : Hid (Fit fs ats (d + 1) n1 []) := Lib.hid ⟨HF.out.fsl, HF.out.atl, HF.out.names, HF.out.lns, by omega, hgr, by have := HF.out.d0; omega, hd1, by simp; omega⟩
          have Hbz : Hid (B < wz.drew.heap.size) := Lib.hid (show B < wz.heap.size by omega)
          have Hqlen : Hid (qs.length ≤ 2000000000000) := Lib.hid (by have := Hqn.out; omega)
          have HownN : Hid (∀ k, Value.ownBlock (.slice p9 qs.length c9) = some k → k ≠ q0 ∧ k ≠ q4 ∧ k ≠ Db) := Lib.hid (fun k hk => by have := Hwn.out k hk; omega)
          clear hqs hqs9
          go_upto_region 7 with fail
          have Hq0s := Hq0
          clear Hq0
          have Hq0 := Hq0'
          refine region_meet (ι := Int × Bool × Option Addr × Nat × Nat × Nat × Value) (fun ⟨n2, inb, ta, tl, tc, bn, v8⟩ => [(59, .pointer (some ⟨bb, 2, none⟩)), (60, .slice p9 qs.length c9), (61, .pointer (some ⟨B, 0, none⟩)), (62, .pointer (some ⟨q1, 5, none⟩)), (63, .agg #[.int .i64 (x.dflt.kind), .int .i64 (x.dflt.n), .string ⟨x.dflt.s.toArray⟩]), (64, .agg #[.bool false, .string ⟨#[]⟩, .bool false, .int .i64 0, .bool false, .int .i64 0, .int .i64 0, .string ⟨#[]⟩, .bool false, .slice none 0 0, .int .i64 0]), (65, .agg #[.int .i64 x.dflt.kind, .int .i64 x.dflt.n, .string ⟨x.dflt.s.toArray⟩, .bool inb, .slice ta tl tc]), (66, .slice (some ⟨bn, 0, none⟩) 1 1), (67, v8), (68, .pointer (some ⟨bb, 2, none⟩))]) (fun ⟨n2, inb, ta, tl, tc, bn, v8⟩ w' => Only (fun k => k = B ∨ k = bb ∨ Value.ownBlock (.slice p9 qs.length c9) = some k) wz w' ∧ Hid (BSt d B M bb L lv av n x.attr x.back [((x.dflt, false, Tr.none d) : Lf (Tr d))] w2 w' (0 + 1) n2 v8 (qs ++ [((x.dflt, inb, ((x.dflt, false, Tr.none d) : Lf (Tr d)).2.2), (⟨ta, tl, tc⟩ : HD))]))) ?_ ?_
          · refine wp_region_held_drew (S := fun w' => Only (fun k => k = B ∨ k = bb ∨ Value.ownBlock (.slice p9 qs.length c9) = some k) wz w') (by kernel_rfl) Hst3h.out (fun hHeld => ?_)
            refine wpAnyH_take (i := 0) (v := .pointer (some ⟨bb, 2, none⟩)) rfl (by kernel_rfl) (by kernel_rfl) (by kernel_rfl) (fun _ _ _ h => h) (Or.inl ⟨by rfl, ?_⟩) hHeld ?_
            · intro w' hSw; go_simp
            try simp only [ν1, ν2, ν3, ν4, ν5, ν6, ν7, ν8]
            refine wpAnyH_take (i := 2) (v := .pointer (some ⟨B, 0, none⟩)) rfl (by kernel_rfl) (by kernel_rfl) (by kernel_rfl) (fun _ _ _ h => h) (Or.inl ⟨by rfl, ?_⟩) hHeld ?_
            · intro w' hSw; have k0 := (hSw.blk Hq0.out Hnq0.out).cells.c1; go_simp
            try simp only [ν1, ν2, ν3, ν4, ν5, ν6, ν7, ν8]
            refine wpAnyH_take (i := 3) (v := .pointer (some ⟨q1, 5, none⟩)) rfl (by kernel_rfl) (by kernel_rfl) (by kernel_rfl) (fun _ _ _ h => h) (Or.inl ⟨by rfl, ?_⟩) hHeld ?_
            · intro w' hSw; go_simp
            try simp only [ν1, ν2, ν3, ν4, ν5, ν6, ν7, ν8]
            refine wpAnyH_take (i := 4) (v := .agg #[.int .i64 (x.dflt.kind), .int .i64 (x.dflt.n), .string ⟨x.dflt.s.toArray⟩]) rfl (by kernel_rfl) (by kernel_rfl) (by kernel_rfl) (fun _ _ _ h => h) (Or.inl ⟨by rfl, ?_⟩) hHeld ?_
            · intro w' hSw; obtain ⟨j0, j1, j2, j3, j4, j5, j6, j7, j8, j9, j10⟩ := item_cells (hSw.blk Hq1.out Hnq1.out).cells; simp only [Nat.zero_add] at j1 j2 j3 j4 j5 j6 j7 j8 j9 j10; go_simp
            try simp only [ν1, ν2, ν3, ν4, ν5, ν6, ν7, ν8]
            refine wpAnyH_take (i := 5) (v := .agg #[.bool false, .string ⟨#[]⟩, .bool false, .int .i64 0, .bool false, .int .i64 0, .int .i64 0, .string ⟨#[]⟩, .bool false, .slice none 0 0, .int .i64 0]) rfl (by kernel_rfl) (by kernel_rfl) (by kernel_rfl) (fun _ _ _ h => h) (Or.inl ⟨by rfl, ?_⟩) hHeld ?_
            · intro w' hSw; go_simp
            try simp only [ν1, ν2, ν3, ν4, ν5, ν6, ν7, ν8]
            refine wpAnyH_ready (rs := [1, 6]) (by kernel_rfl) (by simp) ?_
            refine allVal (v := .slice p9 qs.length c9) (w' := wz.drew) rfl (by kernel_rfl) (by have kc := Hst3.out.box.cells; have k2 := kc 2 _ rfl; simp only [Nat.zero_add] at k2; go_simp) hHeld ?_ ?_
            · try simp only [ν1, ν2, ν3, ν4, ν5, ν6, ν7, ν8]
              refine wpAnyH_ready (rs := [6]) (by kernel_rfl) (by simp) ?_
              refine allCall (f := 48) (args := #[.pointer (some ⟨B, 0, none⟩), .agg #[.int .i64 x.dflt.kind, .int .i64 x.dflt.n, .string ⟨x.dflt.s.toArray⟩], .agg #[.bool false, .string ⟨#[]⟩, .bool false, .int .i64 0, .bool false, .int .i64 0, .int .i64 0, .string ⟨#[]⟩, .bool false, .slice none 0 0, .int .i64 0], .slice none 0 0, .slice none 0 0]) rfl (by kernel_rfl) (by kernel_rfl) ?_ AllReadyH.nil
              refine leaf_any d hT B M hA 0 0 0 (B + 1) (B + 1) lv av fs ats n1 x.dflt zeroIt none 0 [] [] _ _ wz.drew HX3.out (zeroIt_in B _ Hbz.out) (zeroPat B _ Hbz.out) (zeroPth B _ Hbz.out) HF3.out (.inr ⟨rfl, rfl⟩) _ (fun w4 n2 inb ta tl tc hO4 hb4 hl4 => ?_)
              rw [zero_leaf] at hl4
              have hH4 : Only (fun k => k = B ∨ k = bb ∨ Value.ownBlock (.slice p9 qs.length c9) = some k) wz w4 := hHeld.trans (hO4.mono (fun _ _ e => .inl e))
              refine ⟨_, rfl, hH4, ?_⟩
              clear hHeld
              have hHeld := hH4
              clear hH4
              have hbx1 := hO4.blk Hst3.out.box Hbne.out
              have hown1 := Own.turn Hst3d.out.own hO4 hBz2
              have hz4 : wz.heap.size ≤ w4.heap.size := hO4.size
              try simp only [ν1, ν2, ν3, ν4, ν5, ν6, ν7, ν8]
              refine wpAnyH_ready (rs := [7]) (by kernel_rfl) (by simp) ?_
              have hH5 : Only (fun k => k = B ∨ k = bb ∨ Value.ownBlock (.slice p9 qs.length c9) = some k) wz (w4.alloc (.cells #[.int .i64 x.dflt.kind, .int .i64 x.dflt.n, .string ⟨x.dflt.s.toArray⟩, .bool inb, .slice ta tl tc] 64)) := hHeld.trans (Only.alloc w4 _)
              refine allVal (v := .slice (some ⟨w4.heap.size, 0, none⟩) 1 1) (w' := w4.alloc (.cells #[.int .i64 x.dflt.kind, .int .i64 x.dflt.n, .string ⟨x.dflt.s.toArray⟩, .bool inb, .slice ta tl tc] 64)) rfl (by kernel_rfl) (by go_simp) hH5 ?_ AllReadyH.nil
              clear hHeld
              have hHeld := hH5
              clear hH5
              have hbx2 := hbx1.below (alloc_below w4 (.cells #[.int .i64 x.dflt.kind, .int .i64 x.dflt.n, .string ⟨x.dflt.s.toArray⟩, .bool inb, .slice ta tl tc] 64)) hbx1.lt
              obtain ⟨bn, ebn⟩ : ∃ b, b = w4.heap.size := ⟨_, rfl⟩
              rw [← ebn]
              try simp only [ν1, ν2, ν3, ν4, ν5, ν6, ν7, ν8]
              refine wpAnyH_ready (rs := [8]) (by kernel_rfl) (by simp) ?_
              obtain ⟨v8, w8, hr8, ho8, ha8⟩ := app_one Try.underlying60 infoL rfl LH.len LH.one hown1 ((x.dflt, inb, ((x.dflt, false, Tr.none d) : Lf (Tr d)).2.2), (⟨ta, tl, tc⟩ : HD)) (n := bn) ebn (by have := Hst3.out.len; have := Hqlen.out; omega) (by decide) (by omega)
              simp only [LH.enc] at hr8
              have hH8 : Only (fun k => k = B ∨ k = bb ∨ Value.ownBlock (.slice p9 qs.length c9) = some k) wz w8 := (Only.trans Hst3h.out (hO4.mono (fun _ _ e => .inl e))).trans (ha8.only.mono (fun _ _ e => .inr (.inr e)))
              refine allVal (v := v8) (w' := w8) rfl (by kernel_rfl) (execApp hr8 rfl rfl rfl) hH8 ?_ AllReadyH.nil
              clear hHeld hr8 hbx2
              have hHeld := hH8
              clear hH8
              have hbx8 := ha8.blk hbx1 (fun e => by have := (Own.lt hown1 _ e).1; have := Hbbz.out; omega)
              try simp only [ν1, ν2, ν3, ν4, ν5, ν6, ν7, ν8]
              refine wpAnyH_take (i := 9) (v := .pointer (some ⟨bb, 2, none⟩)) rfl (by kernel_rfl) (by kernel_rfl) (by kernel_rfl) (fun _ _ _ h => h) (Or.inl ⟨by rfl, ?_⟩) hHeld ?_
              · intro w' hSw; go_simp
              try simp only [ν1, ν2, ν3, ν4, ν5, ν6, ν7, ν8]
              refine wpAnyH_ready (rs := [10]) (by kernel_rfl) (by simp) ?_
              obtain ⟨p8, c8, e8⟩ := Own.slice ho8
              have zc := hbx8.cells 2 _ rfl
              simp only [Nat.zero_add] at zc
              have zl := hbx8.lt
              have zf := hbx8.free 2
              have hH9 : Only (fun k => k = B ∨ k = bb ∨ Value.ownBlock (.slice p9 qs.length c9) = some k) wz (w8.setCell ⟨bb, 2, none⟩ v8) := hHeld.trans (Only.setCell (A := (fun k => k = B ∨ k = bb ∨ Value.ownBlock (.slice p9 qs.length c9) = some k)) w8 (p := ⟨bb, 2, none⟩) (.inr (.inl rfl)) _)
              refine allSkip (w' := (w8.setCell ⟨bb, 2, none⟩ v8)) rfl (by kernel_rfl) (by rw [e8]; go_simp) hH9 ?_ AllReadyH.nil
              have Hst9 := Lib.hid (BSt.leaf (u := x.dflt) Hst3d.out rfl hgr hBz2 Hbbz.out Hbne.out (rfl) hO4 hb4 hl4 ho8 ha8)
              clear hHeld zc zl zf e8
              have hHeld := hH9
              clear hH9
              try simp only [ν1, ν2, ν3, ν4, ν5, ν6, ν7, ν8]
              refine wpAnyH_done (by kernel_rfl) ?_ _
              exact ⟨⟨n2, inb, ta, tl, tc, bn, v8⟩, by kernel_rfl, hHeld, Hst9⟩
            refine allCall (f := 48) (args := #[.pointer (some ⟨B, 0, none⟩), .agg #[.int .i64 x.dflt.kind, .int .i64 x.dflt.n, .string ⟨x.dflt.s.toArray⟩], .agg #[.bool false, .string ⟨#[]⟩, .bool false, .int .i64 0, .bool false, .int .i64 0, .int .i64 0, .string ⟨#[]⟩, .bool false, .slice none 0 0, .int .i64 0], .slice none 0 0, .slice none 0 0]) rfl (by kernel_rfl) (by kernel_rfl) ?_ AllReadyH.nil
            refine leaf_any d hT B M hA 0 0 0 (B + 1) (B + 1) lv av fs ats n1 x.dflt zeroIt none 0 [] [] _ _ wz.drew HX3.out (zeroIt_in B _ Hbz.out) (zeroPat B _ Hbz.out) (zeroPth B _ Hbz.out) HF3.out (.inr ⟨rfl, rfl⟩) _ (fun w4 n2 inb ta tl tc hO4 hb4 hl4 => ?_)
            rw [zero_leaf] at hl4
            have hH4 : Only (fun k => k = B ∨ k = bb ∨ Value.ownBlock (.slice p9 qs.length c9) = some k) wz w4 := hHeld.trans (hO4.mono (fun _ _ e => .inl e))
            refine ⟨_, rfl, hH4, ?_⟩
            clear hHeld
            have hHeld := hH4
            clear hH4
            have hbx1 := hO4.blk Hst3.out.box Hbne.out
            have hown1 := Own.turn Hst3d.out.own hO4 hBz2
            have hz4 : wz.heap.size ≤ w4.heap.size := hO4.size
            try simp only [ν1, ν2, ν3, ν4, ν5, ν6, ν7, ν8]
            refine wpAnyH_ready (rs := [1, 7]) (by kernel_rfl) (by simp) ?_
            refine allVal (v := .slice p9 qs.length c9) (w' := w4) rfl (by kernel_rfl) (by have kc := hbx1.cells; have k2 := kc 2 _ rfl; simp only [Nat.zero_add] at k2; go_simp) hHeld ?_ ?_
            · try simp only [ν1, ν2, ν3, ν4, ν5, ν6, ν7, ν8]
              refine wpAnyH_ready (rs := [7]) (by kernel_rfl) (by simp) ?_
              have hH5 : Only (fun k => k = B ∨ k = bb ∨ Value.ownBlock (.slice p9 qs.length c9) = some k) wz (w4.alloc (.cells #[.int .i64 x.dflt.kind, .int .i64 x.dflt.n, .string ⟨x.dflt.s.toArray⟩, .bool inb, .slice ta tl tc] 64)) := hHeld.trans (Only.alloc w4 _)
              refine allVal (v := .slice (some ⟨w4.heap.size, 0, none⟩) 1 1) (w' := w4.alloc (.cells #[.int .i64 x.dflt.kind, .int .i64 x.dflt.n, .string ⟨x.dflt.s.toArray⟩, .bool inb, .slice ta tl tc] 64)) rfl (by kernel_rfl) (by go_simp) hH5 ?_ AllReadyH.nil
              clear hHeld
              have hHeld := hH5
              clear hH5
              have hbx2 := hbx1.below (alloc_below w4 (.cells #[.int .i64 x.dflt.kind, .int .i64 x.dflt.n, .string ⟨x.dflt.s.toArray⟩, .bool inb, .slice ta tl tc] 64)) hbx1.lt
              obtain ⟨bn, ebn⟩ : ∃ b, b = w4.heap.size := ⟨_, rfl⟩
              rw [← ebn]
              try simp only [ν1, ν2, ν3, ν4, ν5, ν6, ν7, ν8]
              refine wpAnyH_ready (rs := [8]) (by kernel_rfl) (by simp) ?_
              obtain ⟨v8, w8, hr8, ho8, ha8⟩ := app_one Try.underlying60 infoL rfl LH.len LH.one hown1 ((x.dflt, inb, ((x.dflt, false, Tr.none d) : Lf (Tr d)).2.2), (⟨ta, tl, tc⟩ : HD)) (n := bn) ebn (by have := Hst3.out.len; have := Hqlen.out; omega) (by decide) (by omega)
              simp only [LH.enc] at hr8
              have hH8 : Only (fun k => k = B ∨ k = bb ∨ Value.ownBlock (.slice p9 qs.length c9) = some k) wz w8 := (Only.trans Hst3h.out (hO4.mono (fun _ _ e => .inl e))).trans (ha8.only.mono (fun _ _ e => .inr (.inr e)))
              refine allVal (v := v8) (w' := w8) rfl (by kernel_rfl) (execApp hr8 rfl rfl rfl) hH8 ?_ AllReadyH.nil
              clear hHeld hr8 hbx2
              have hHeld := hH8
              clear hH8
              have hbx8 := ha8.blk hbx1 (fun e => by have := (Own.lt hown1 _ e).1; have := Hbbz.out; omega)
              try simp only [ν1, ν2, ν3, ν4, ν5, ν6, ν7, ν8]
              refine wpAnyH_take (i := 9) (v := .pointer (some ⟨bb, 2, none⟩)) rfl (by kernel_rfl) (by kernel_rfl) (by kernel_rfl) (fun _ _ _ h => h) (Or.inl ⟨by rfl, ?_⟩) hHeld ?_
              · intro w' hSw; go_simp
              try simp only [ν1, ν2, ν3, ν4, ν5, ν6, ν7, ν8]
              refine wpAnyH_ready (rs := [10]) (by kernel_rfl) (by simp) ?_
              obtain ⟨p8, c8, e8⟩ := Own.slice ho8
              have zc := hbx8.cells 2 _ rfl
              simp only [Nat.zero_add] at zc
              have zl := hbx8.lt
              have zf := hbx8.free 2
              have hH9 : Only (fun k => k = B ∨ k = bb ∨ Value.ownBlock (.slice p9 qs.length c9) = some k) wz (w8.setCell ⟨bb, 2, none⟩ v8) := hHeld.trans (Only.setCell (A := (fun k => k = B ∨ k = bb ∨ Value.ownBlock (.slice p9 qs.length c9) = some k)) w8 (p := ⟨bb, 2, none⟩) (.inr (.inl rfl)) _)
              refine allSkip (w' := (w8.setCell ⟨bb, 2, none⟩ v8)) rfl (by kernel_rfl) (by rw [e8]; go_simp) hH9 ?_ AllReadyH.nil
              have Hst9 := Lib.hid (BSt.leaf (u := x.dflt) Hst3d.out rfl hgr hBz2 Hbbz.out Hbne.out (rfl) hO4 hb4 hl4 ho8 ha8)
              clear hHeld zc zl zf e8
              have hHeld := hH9
              clear hH9
              try simp only [ν1, ν2, ν3, ν4, ν5, ν6, ν7, ν8]
              refine wpAnyH_done (by kernel_rfl) ?_ _
              exact ⟨⟨n2, inb, ta, tl, tc, bn, v8⟩, by kernel_rfl, hHeld, Hst9⟩
            have hH5 : Only (fun k => k = B ∨ k = bb ∨ Value.ownBlock (.slice p9 qs.length c9) = some k) wz (w4.alloc (.cells #[.int .i64 x.dflt.kind, .int .i64 x.dflt.n, .string ⟨x.dflt.s.toArray⟩, .bool inb, .slice ta tl tc] 64)) := hHeld.trans (Only.alloc w4 _)
            refine allVal (v := .slice (some ⟨w4.heap.size, 0, none⟩) 1 1) (w' := w4.alloc (.cells #[.int .i64 x.dflt.kind, .int .i64 x.dflt.n, .string ⟨x.dflt.s.toArray⟩, .bool inb, .slice ta tl tc] 64)) rfl (by kernel_rfl) (by go_simp) hH5 ?_ AllReadyH.nil
            clear hHeld
            have hHeld := hH5
            clear hH5
            have hbx2 := hbx1.below (alloc_below w4 (.cells #[.int .i64 x.dflt.kind, .int .i64 x.dflt.n, .string ⟨x.dflt.s.toArray⟩, .bool inb, .slice ta tl tc] 64)) hbx1.lt
            obtain ⟨bn, ebn⟩ : ∃ b, b = w4.heap.size := ⟨_, rfl⟩
            rw [← ebn]
            try simp only [ν1, ν2, ν3, ν4, ν5, ν6, ν7, ν8]
            refine wpAnyH_ready (rs := [1]) (by kernel_rfl) (by simp) ?_
            refine allVal (v := .slice p9 qs.length c9) (w' := (w4.alloc (.cells #[.int .i64 x.dflt.kind, .int .i64 x.dflt.n, .string ⟨x.dflt.s.toArray⟩, .bool inb, .slice ta tl tc] 64))) rfl (by kernel_rfl) (by have kc := hbx2.cells; have k2 := kc 2 _ rfl; simp only [Nat.zero_add] at k2; go_simp) hHeld ?_ AllReadyH.nil
            try simp only [ν1, ν2, ν3, ν4, ν5, ν6, ν7, ν8]
            refine wpAnyH_ready (rs := [8]) (by kernel_rfl) (by simp) ?_
            obtain ⟨v8, w8, hr8, ho8, ha8⟩ := app_one Try.underlying60 infoL rfl LH.len LH.one hown1 ((x.dflt, inb, ((x.dflt, false, Tr.none d) : Lf (Tr d)).2.2), (⟨ta, tl, tc⟩ : HD)) (n := bn) ebn (by have := Hst3.out.len; have := Hqlen.out; omega) (by decide) (by omega)
            simp only [LH.enc] at hr8
            have hH8 : Only (fun k => k = B ∨ k = bb ∨ Value.ownBlock (.slice p9 qs.length c9) = some k) wz w8 := (Only.trans Hst3h.out (hO4.mono (fun _ _ e => .inl e))).trans (ha8.only.mono (fun _ _ e => .inr (.inr e)))
            refine allVal (v := v8) (w' := w8) rfl (by kernel_rfl) (execApp hr8 rfl rfl rfl) hH8 ?_ AllReadyH.nil
            clear hHeld hr8 hbx2
            have hHeld := hH8
            clear hH8
            have hbx8 := ha8.blk hbx1 (fun e => by have := (Own.lt hown1 _ e).1; have := Hbbz.out; omega)
            try simp only [ν1, ν2, ν3, ν4, ν5, ν6, ν7, ν8]
            refine wpAnyH_take (i := 9) (v := .pointer (some ⟨bb, 2, none⟩)) rfl (by kernel_rfl) (by kernel_rfl) (by kernel_rfl) (fun _ _ _ h => h) (Or.inl ⟨by rfl, ?_⟩) hHeld ?_
            · intro w' hSw; go_simp
            try simp only [ν1, ν2, ν3, ν4, ν5, ν6, ν7, ν8]
            refine wpAnyH_ready (rs := [10]) (by kernel_rfl) (by simp) ?_
            obtain ⟨p8, c8, e8⟩ := Own.slice ho8
            have zc := hbx8.cells 2 _ rfl
            simp only [Nat.zero_add] at zc
            have zl := hbx8.lt
            have zf := hbx8.free 2
            have hH9 : Only (fun k => k = B ∨ k = bb ∨ Value.ownBlock (.slice p9 qs.length c9) = some k) wz (w8.setCell ⟨bb, 2, none⟩ v8) := hHeld.trans (Only.setCell (A := (fun k => k = B ∨ k = bb ∨ Value.ownBlock (.slice p9 qs.length c9) = some k)) w8 (p := ⟨bb, 2, none⟩) (.inr (.inl rfl)) _)
            refine allSkip (w' := (w8.setCell ⟨bb, 2, none⟩ v8)) rfl (by kernel_rfl) (by rw [e8]; go_simp) hH9 ?_ AllReadyH.nil
            have Hst9 := Lib.hid (BSt.leaf (u := x.dflt) Hst3d.out rfl hgr hBz2 Hbbz.out Hbne.out (rfl) hO4 hb4 hl4 ho8 ha8)
            clear hHeld zc zl zf e8
            have hHeld := hH9
            clear hH9
            try simp only [ν1, ν2, ν3, ν4, ν5, ν6, ν7, ν8]
            refine wpAnyH_done (by kernel_rfl) ?_ _
            exact ⟨⟨n2, inb, ta, tl, tc, bn, v8⟩, by kernel_rfl, hHeld, Hst9⟩
          rintro ⟨n2, inb, ta, tl, tc, bn, v8⟩ w9 ⟨hO9, Hst9⟩
          simp only [List.foldl_cons, List.foldl_nil]
          try simp only [ν1, ν2, ν3, ν4, ν5, ν6, ν7, ν8]
          have Hq0 := Hq0s
          have HLo : Hid (LOut d w2.heap.size w9 n n2 v8 (leavesP fs ats d (treeP fs ats d) e x (ps.map (·.1)) path)) := Lib.hid (by
            rw [HLv.out, if_pos rfl]
            exact Hst9.out.out (.inr rfl) (Nat.le_refl _))
          have hO9b := Hst9.out.only
          obtain ⟨p8, c8, e8⟩ := Own.slice Hst9.out.own
          subst e8
          have hln : (qs ++ [((x.dflt, inb, ((x.dflt, false, Tr.none d) : Lf (Tr d)).2.2), (⟨ta, tl, tc⟩ : HD))]).length = qs.length + 1 := by simp
          rw [hln] at HLo Hst9 ⊢
          have Hx9 := Lib.hid Hst9.out.box
          have Hb9 := Lib.hid Hst9.out.blk
          clear hO9 x4 yb hq0 hln
          obtain ⟨-, -, -, -, g4, gD⟩ := Hq0.out w9 hO9b
          obtain ⟨e0, e1, e2⟩ := branch_cells Hx9.out.cells
          simp only [Nat.zero_add] at e1 e2
          obtain ⟨o0, o1, o2⟩ := branch_cells g4.cells
          simp only [Nat.zero_add] at o1 o2
          have hzw := hO9b.size
          have hqs := Hq.out
          have hqs9 := Hq9.out
          have ol := g4.lt
          have of0 := g4.free 0
          have of1 := g4.free 1
          have of2 := g4.free 2
          have h4 := Blk.set3 g4 (.string ⟨x.attr.toArray⟩) (.bool x.back) (.slice p8 (qs.length + 1) c8)
          have hO4 := only_set3 w9 q4 (.string ⟨x.attr.toArray⟩) (.bool x.back) (.slice p8 (qs.length + 1) c8)
          have hD4 : (set3 w9 q4 (.string ⟨x.attr.toArray⟩) (.bool x.back) (.slice p8 (qs.length + 1) c8)).heap[Db]? = some (.deferred (some [])) := (hO4.block Db (by omega) (by omega)).trans gD
          have hO5 : Only (· = Db) (set3 w9 q4 (.string ⟨x.attr.toArray⟩) (.bool x.back) (.slice p8 (qs.length + 1) c8)) ((set3 w9 q4 (.string ⟨x.attr.toArray⟩) (.bool x.back) (.slice p8 (qs.length + 1) c8)).putObj Db (.deferred none)) := Only.putObj (A := (· = Db)) _ (b := Db) rfl _
          have hO45 : Only (fun k => k = q4 ∨ k = Db) w9 ((set3 w9 q4 (.string ⟨x.attr.toArray⟩) (.bool x.back) (.slice p8 (qs.length + 1) c8)).putObj Db (.deferred none)) := (hO4.mono (fun _ _ e => .inl e)).trans (hO5.mono (fun _ _ e => .inr e))
          have hO46 : Only (fun k => k = B ∨ k = bb ∨ k = L ∨ k = q4 ∨ k = Db) w2 ((set3 w9 q4 (.string ⟨x.attr.toArray⟩) (.bool x.back) (.slice p8 (qs.length + 1) c8)).putObj Db (.deferred none)) := (hO9b.mono (fun _ _ e => by omega)).trans (hO45.mono (fun _ _ e => by omega))
          have hr := HR.out _ n2 p8 (qs.length + 1) c8 ((Below.only HBw2.out).join (A := fun k => k = B ∨ k = bb ∨ k = L ∨ k = q4 ∨ k = Db) hO46 (fun k hk e => by omega)) (hO45.blk Hb9.out (by omega)) ((HLo.out.agree (hO45.agree (Nat.le_refl _) (fun k e => .inl (by omega))) hO45.size).lower HBw2.out.size)
          have HT2 := Lib.hid (fun (fn : Func) (tmps : Array Value) hfn ht => brTail (n := 3) (fn := fn) (tmps := tmps) (R := R) hfn ht h4 hD4 hr)
          unfold set3 at HT2
          clear g4 gD h4 hO4 hD4 hO5 hO45 hO46 hr hO9b
          go_wp2_with fail
          first | exact HT2.out _ _ rfl rfl | (simp only [Exit.noGoto]; exact HT2.out _ _ rfl rfl)
        | false =>
          have HLo : Hid (LOut d w2.heap.size W7 n n1 (.slice p9 qs.length c9) (leavesP fs ats d (treeP fs ats d) e x (ps.map (·.1)) path)) := Lib.hid (by
            rw [HLv.out, if_neg (by decide), ← Hpl0.out]
            exact HS7.out.out (.inr (by rw [Hpl0.out]; rfl)) (Nat.le_refl _))
          have hO9b := HS7.out.only
          have Hx9 := Lib.hid HS7.out.box
          have Hb9 := Lib.hid HS7.out.blk
          obtain ⟨-, -, -, -, g4, gD⟩ := Hq0.out W7 hO9b
          obtain ⟨e0, e1, e2⟩ := branch_cells Hx9.out.cells
          simp only [Nat.zero_add] at e1 e2
          obtain ⟨o0, o1, o2⟩ := branch_cells g4.cells
          simp only [Nat.zero_add] at o1 o2
          have hzw := hO9b.size
          have hqs := Hq.out
          have hqs9 := Hq9.out
          have ol := g4.lt
          have of0 := g4.free 0
          have of1 := g4.free 1
          have of2 := g4.free 2
          have h4 := Blk.set3 g4 (.string ⟨x.attr.toArray⟩) (.bool x.back) (.slice p9 qs.length c9)
          have hO4 := only_set3 W7 q4 (.string ⟨x.attr.toArray⟩) (.bool x.back) (.slice p9 qs.length c9)
          have hD4 : (set3 W7 q4 (.string ⟨x.attr.toArray⟩) (.bool x.back) (.slice p9 qs.length c9)).heap[Db]? = some (.deferred (some [])) := (hO4.block Db (by omega) (by omega)).trans gD
          have hO5 : Only (· = Db) (set3 W7 q4 (.string ⟨x.attr.toArray⟩) (.bool x.back) (.slice p9 qs.length c9)) ((set3 W7 q4 (.string ⟨x.attr.toArray⟩) (.bool x.back) (.slice p9 qs.length c9)).putObj Db (.deferred none)) := Only.putObj (A := (· = Db)) _ (b := Db) rfl _
          have hO45 : Only (fun k => k = q4 ∨ k = Db) W7 ((set3 W7 q4 (.string ⟨x.attr.toArray⟩) (.bool x.back) (.slice p9 qs.length c9)).putObj Db (.deferred none)) := (hO4.mono (fun _ _ e => .inl e)).trans (hO5.mono (fun _ _ e => .inr e))
          have hO46 : Only (fun k => k = B ∨ k = bb ∨ k = L ∨ k = q4 ∨ k = Db) w2 ((set3 W7 q4 (.string ⟨x.attr.toArray⟩) (.bool x.back) (.slice p9 qs.length c9)).putObj Db (.deferred none)) := (hO9b.mono (fun _ _ e => by omega)).trans (hO45.mono (fun _ _ e => by omega))
          have hr := HR.out _ n1 p9 qs.length c9 ((Below.only HBw2.out).join (A := fun k => k = B ∨ k = bb ∨ k = L ∨ k = q4 ∨ k = Db) hO46 (fun k hk e => by omega)) (hO45.blk Hb9.out (by omega)) ((HLo.out.agree (hO45.agree (Nat.le_refl _) (fun k e => .inl (by omega))) hO45.size).lower HBw2.out.size)
          have HT2 := Lib.hid (fun (fn : Func) (tmps : Array Value) hfn ht => brTail (n := 3) (fn := fn) (tmps := tmps) (R := R) hfn ht h4 hD4 hr)
          unfold set3 at HT2
          clear g4 gD h4 hO4 hD4 hO5 hO45 hO46 hr hO9b
          go_wp2_with fail
          first | exact HT2.out _ _ rfl rfl | (simp only [Exit.noGoto]; exact HT2.out _ _ rfl rfl)
      · have hq0 : ((qs.length : Int) == 0) = false := by have h1 := HS7.out.len; simp [h1]; exact h0
        have HLv : Hid (leavesP fs ats d (treeP fs ats d) e x (ps.map (·.1)) path = pl) := Lib.hid (by
          unfold leavesP
          rw [← Hvs.out, if_neg (by intro h; have h2 := Hpl.out; rw [h] at h2; have := HS7.out.ile; rw [h2] at this; simp at this; exact h0 this), Hpl.out])
        have HLo : Hid (LOut d w2.heap.size W7 n n1 (.slice p9 qs.length c9) (leavesP fs ats d (treeP fs ats d) e x (ps.map (·.1)) path)) := Lib.hid (by
          rw [HLv.out]
          exact HS7.out.out Hfull.out (Nat.le_refl _))
        have hO9b := HS7.out.only
        have Hx9 := Lib.hid HS7.out.box
        have Hb9 := Lib.hid HS7.out.blk
        clear x4
        obtain ⟨-, -, -, -, g4, gD⟩ := Hq0.out W7 hO9b
        obtain ⟨e0, e1, e2⟩ := branch_cells Hx9.out.cells
        simp only [Nat.zero_add] at e1 e2
        obtain ⟨o0, o1, o2⟩ := branch_cells g4.cells
        simp only [Nat.zero_add] at o1 o2
        have hzw := hO9b.size
        have hqs := Hq.out
        have hqs9 := Hq9.out
        have ol := g4.lt
        have of0 := g4.free 0
        have of1 := g4.free 1
        have of2 := g4.free 2
        have h4 := Blk.set3 g4 (.string ⟨x.attr.toArray⟩) (.bool x.back) (.slice p9 qs.length c9)
        have hO4 := only_set3 W7 q4 (.string ⟨x.attr.toArray⟩) (.bool x.back) (.slice p9 qs.length c9)
        have hD4 : (set3 W7 q4 (.string ⟨x.attr.toArray⟩) (.bool x.back) (.slice p9 qs.length c9)).heap[Db]? = some (.deferred (some [])) := (hO4.block Db (by omega) (by omega)).trans gD
        have hO5 : Only (· = Db) (set3 W7 q4 (.string ⟨x.attr.toArray⟩) (.bool x.back) (.slice p9 qs.length c9)) ((set3 W7 q4 (.string ⟨x.attr.toArray⟩) (.bool x.back) (.slice p9 qs.length c9)).putObj Db (.deferred none)) := Only.putObj (A := (· = Db)) _ (b := Db) rfl _
        have hO45 : Only (fun k => k = q4 ∨ k = Db) W7 ((set3 W7 q4 (.string ⟨x.attr.toArray⟩) (.bool x.back) (.slice p9 qs.length c9)).putObj Db (.deferred none)) := (hO4.mono (fun _ _ e => .inl e)).trans (hO5.mono (fun _ _ e => .inr e))
        have hO46 : Only (fun k => k = B ∨ k = bb ∨ k = L ∨ k = q4 ∨ k = Db) w2 ((set3 W7 q4 (.string ⟨x.attr.toArray⟩) (.bool x.back) (.slice p9 qs.length c9)).putObj Db (.deferred none)) := (hO9b.mono (fun _ _ e => by omega)).trans (hO45.mono (fun _ _ e => by omega))
        have hr := HR.out _ n1 p9 qs.length c9 ((Below.only HBw2.out).join (A := fun k => k = B ∨ k = bb ∨ k = L ∨ k = q4 ∨ k = Db) hO46 (fun k hk e => by omega)) (hO45.blk Hb9.out (by omega)) ((HLo.out.agree (hO45.agree (Nat.le_refl _) (fun k e => .inl (by omega))) hO45.size).lower HBw2.out.size)
        have HT2 := Lib.hid (fun (fn : Func) (tmps : Array Value) hfn ht => brTail (n := 3) (fn := fn) (tmps := tmps) (R := R) hfn ht h4 hD4 hr)
        unfold set3 at HT2
        clear g4 gD h4 hO4 hD4 hO5 hO45 hO46 hr hO9b
        go_wp2_with fail
        first | exact HT2.out _ _ rfl rfl | (simp only [Exit.noGoto]; exact HT2.out _ _ rfl rfl)
    · rw [HZ.out] at hZ
      obtain ⟨i, n1, hv, qs, hst, hfull, hlp⟩ := hZ
      refine ⟨⟨v, rfl⟩, .done, some (.exit 0), by simp, hlp, ?_⟩
      have hlt := heap_lt hlp
      have h7 : Only (· = L) W6 (W6.putObj L (.loop (RL .exhausted (some (.exit 0))))) := Only.putObj (A := (· = L)) _ (b := L) rfl _
      show Code.wp _ _ (Exit.inBlock 0 _) _ (W6.putObj L (.loop (RL .exhausted (some (.exit 0)))))
      generalize W6.putObj L (.loop (RL .exhausted (some (.exit 0)))) = W7 at *
      have hst7 := hst.loop h7 HLne.out.1 HLne.out.2 hLz
      clear hst hlp h7 hlt
      obtain ⟨p9, c9, rfl⟩ := Own.slice hst7.own
      have HS7 := Lib.hid hst7
      have Hfull := Lib.hid hfull
      have hnle := hst7.le
      have hnge := hst7.ge
      have hO7 := hst7.only
      obtain ⟨hq0, hq1, hq2, hq3, hq4, hDf⟩ := Hq0.out W7 hO7
      have yb := hst7.box.cells 2 _ rfl
      obtain ⟨x0, x1, x2, x3, x4, x5, x6, x7, x8, x9, x10⟩ := item_cells hq1.cells
      simp only [Nat.zero_add] at x4 yb
      have hz7 := hO7.size
      have Hk1 := Lib.hid hq1
      have Hk0 := Lib.hid hq0
      clear hst7 hfull hq0 hq1 hq2 hq3 hq4 hDf hO7 x0 x1 x2 x3 x5 x6 x7 x8 x9 x10
      by_cases h0 : i = 0
      · subst h0
        have hg0 := HS7.out.good (by simp [lfsSize]; omega)
        have hn1e : n1 = n := by have := hg0.1; simpa [lfsSize] using this
        have Hn1e := Lib.hid hn1e
        have Hpl0 : Hid (pl = []) := Lib.hid (by
          rcases Hfull.out with h | h
          · omega
          · exact List.eq_nil_of_length_eq_zero h.symm)
        have Hqn : Hid (qs.length = 0) := Lib.hid HS7.out.len
        have hq0 : ((qs.length : Int) == 0) = true := by rw [HS7.out.len]; rfl
        have HLv : Hid (leavesP fs ats d (treeP fs ats d) e x (ps.map (·.1)) path = if x.has then [(x.dflt, false, Tr.none d)] else []) := Lib.hid (by
          have h := Hpl0.out
          rw [Hpl.out, List.map_eq_nil_iff] at h
          unfold leavesP
          rw [← Hvs.out, if_pos h])
        clear hg0 hn1e
        obtain ⟨hb, hhb⟩ : ∃ hb, hb = x.has := ⟨_, rfl⟩
        rw [← hhb] at x4 HLv
        clear hhb
        cases hb with
        | true =>
          obtain ⟨wz, ewz⟩ : ∃ z, z = W7 := ⟨_, rfl⟩
          subst ewz
          have hgr : n1 ≤ 10000 := by have := Hn1e.out; omega
          have Hst3 := Lib.hid (HS7.out.repl [((x.dflt, false, Tr.none d) : Lf (Tr d))])
          have Hst3d := Lib.hid (Hst3.out.below (W' := wz.drew) (Below.refl _ _).drew)
          have Hst3h : Hid (Only (fun k => k = B ∨ k = bb ∨ Value.ownBlock (.slice p9 qs.length c9) = some k) wz wz.drew) := Lib.hid (Only.drew wz)
          have Hq1 := Hk1
          have Hq0' := Hk0
          have hqs := Hq.out
          have hqs9 := Hq9.out
          have Hwn : Hid (∀ k, Value.ownBlock (.slice p9 qs.length c9) = some k → w2.heap.size ≤ k) := Lib.hid (fun k hk => (Own.lt HS7.out.own k hk).1)
          have Hnq0 : Hid (¬ (q0 = B ∨ q0 = bb ∨ Value.ownBlock (.slice p9 qs.length c9) = some q0)) := Lib.hid (by rintro (h | h | h); omega; omega; have := Hwn.out _ h; omega)
          have Hnq1 : Hid (¬ (q1 = B ∨ q1 = bb ∨ Value.ownBlock (.slice p9 qs.length c9) = some q1)) := Lib.hid (by rintro (h | h | h); omega; omega; have := Hwn.out _ h; omega)
          have HX3 : Hid (PulX B M hA wz.drew lv av fs ats n1) := Lib.hid ((HP2.out.turnA (n' := n1) HS7.out.only HS7.out.blk (fun k e => by have := HP.out.le; omega) (by have := HP.out.ne; have := HP.out.names.lt; omega)).below ((Below.refl _ _).drew))
          have HF3 : Hid (Fit fs ats (d + 1) n1 []) := Lib.hid ⟨HF.out.fsl, HF.out.atl, HF.out.names, HF.out.lns, by omega, hgr, by have := HF.out.d0; omega, hd1, by simp; omega⟩
          have Hbz : Hid (B < wz.drew.heap.size) := Lib.hid (show B < wz.heap.size by omega)
          have Hqlen : Hid (qs.length ≤ 2000000000000) := Lib.hid (by have := Hqn.out; omega)
          have HownN : Hid (∀ k, Value.ownBlock (.slice p9 qs.length c9) = some k → k ≠ q0 ∧ k ≠ q4 ∧ k ≠ Db) := Lib.hid (fun k hk => by have := Hwn.out k hk; omega)
          clear hqs hqs9
          go_upto_region 7 with fail
          have Hq0s := Hq0
          clear Hq0
          have Hq0 := Hq0'
          refine region_meet (ι := Int × Bool × Option Addr × Nat × Nat × Nat × Value) (fun ⟨n2, inb, ta, tl, tc, bn, v8⟩ => [(59, .pointer (some ⟨bb, 2, none⟩)), (60, .slice p9 qs.length c9), (61, .pointer (some ⟨B, 0, none⟩)), (62, .pointer (some ⟨q1, 5, none⟩)), (63, .agg #[.int .i64 (x.dflt.kind), .int .i64 (x.dflt.n), .string ⟨x.dflt.s.toArray⟩]), (64, .agg #[.bool false, .string ⟨#[]⟩, .bool false, .int .i64 0, .bool false, .int .i64 0, .int .i64 0, .string ⟨#[]⟩, .bool false, .slice none 0 0, .int .i64 0]), (65, .agg #[.int .i64 x.dflt.kind, .int .i64 x.dflt.n, .string ⟨x.dflt.s.toArray⟩, .bool inb, .slice ta tl tc]), (66, .slice (some ⟨bn, 0, none⟩) 1 1), (67, v8), (68, .pointer (some ⟨bb, 2, none⟩))]) (fun ⟨n2, inb, ta, tl, tc, bn, v8⟩ w' => Only (fun k => k = B ∨ k = bb ∨ Value.ownBlock (.slice p9 qs.length c9) = some k) wz w' ∧ Hid (BSt d B M bb L lv av n x.attr x.back [((x.dflt, false, Tr.none d) : Lf (Tr d))] w2 w' (0 + 1) n2 v8 (qs ++ [((x.dflt, inb, ((x.dflt, false, Tr.none d) : Lf (Tr d)).2.2), (⟨ta, tl, tc⟩ : HD))]))) ?_ ?_
          · refine wp_region_held_drew (S := fun w' => Only (fun k => k = B ∨ k = bb ∨ Value.ownBlock (.slice p9 qs.length c9) = some k) wz w') (by kernel_rfl) Hst3h.out (fun hHeld => ?_)
            refine wpAnyH_take (i := 0) (v := .pointer (some ⟨bb, 2, none⟩)) rfl (by kernel_rfl) (by kernel_rfl) (by kernel_rfl) (fun _ _ _ h => h) (Or.inl ⟨by rfl, ?_⟩) hHeld ?_
            · intro w' hSw; go_simp
            try simp only [ν1, ν2, ν3, ν4, ν5, ν6, ν7, ν8]
            refine wpAnyH_take (i := 2) (v := .pointer (some ⟨B, 0, none⟩)) rfl (by kernel_rfl) (by kernel_rfl) (by kernel_rfl) (fun _ _ _ h => h) (Or.inl ⟨by rfl, ?_⟩) hHeld ?_
            · intro w' hSw; have k0 := (hSw.blk Hq0.out Hnq0.out).cells.c1; go_simp
            try simp only [ν1, ν2, ν3, ν4, ν5, ν6, ν7, ν8]
            refine wpAnyH_take (i := 3) (v := .pointer (some ⟨q1, 5, none⟩)) rfl (by kernel_rfl) (by kernel_rfl) (by kernel_rfl) (fun _ _ _ h => h) (Or.inl ⟨by rfl, ?_⟩) hHeld ?_
            · intro w' hSw; go_simp
            try simp only [ν1, ν2, ν3, ν4, ν5, ν6, ν7, ν8]
            refine wpAnyH_take (i := 4) (v := .agg #[.int .i64 (x.dflt.kind), .int .i64 (x.dflt.n), .string ⟨x.dflt.s.toArray⟩]) rfl (by kernel_rfl) (by kernel_rfl) (by kernel_rfl) (fun _ _ _ h => h) (Or.inl ⟨by rfl, ?_⟩) hHeld ?_
            · intro w' hSw; obtain ⟨j0, j1, j2, j3, j4, j5, j6, j7, j8, j9, j10⟩ := item_cells (hSw.blk Hq1.out Hnq1.out).cells; simp only [Nat.zero_add] at j1 j2 j3 j4 j5 j6 j7 j8 j9 j10; go_simp
            try simp only [ν1, ν2, ν3, ν4, ν5, ν6, ν7, ν8]
            refine wpAnyH_take (i := 5) (v := .agg #[.bool false, .string ⟨#[]⟩, .bool false, .int .i64 0, .bool false, .int .i64 0, .int .i64 0, .string ⟨#[]⟩, .bool false, .slice none 0 0, .int .i64 0]) rfl (by kernel_rfl) (by kernel_rfl) (by kernel_rfl) (fun _ _ _ h => h) (Or.inl ⟨by rfl, ?_⟩) hHeld ?_
            · intro w' hSw; go_simp
            try simp only [ν1, ν2, ν3, ν4, ν5, ν6, ν7, ν8]
            refine wpAnyH_ready (rs := [1, 6]) (by kernel_rfl) (by simp) ?_
            refine allVal (v := .slice p9 qs.length c9) (w' := wz.drew) rfl (by kernel_rfl) (by have kc := Hst3.out.box.cells; have k2 := kc 2 _ rfl; simp only [Nat.zero_add] at k2; go_simp) hHeld ?_ ?_
            · try simp only [ν1, ν2, ν3, ν4, ν5, ν6, ν7, ν8]
              refine wpAnyH_ready (rs := [6]) (by kernel_rfl) (by simp) ?_
              refine allCall (f := 48) (args := #[.pointer (some ⟨B, 0, none⟩), .agg #[.int .i64 x.dflt.kind, .int .i64 x.dflt.n, .string ⟨x.dflt.s.toArray⟩], .agg #[.bool false, .string ⟨#[]⟩, .bool false, .int .i64 0, .bool false, .int .i64 0, .int .i64 0, .string ⟨#[]⟩, .bool false, .slice none 0 0, .int .i64 0], .slice none 0 0, .slice none 0 0]) rfl (by kernel_rfl) (by kernel_rfl) ?_ AllReadyH.nil
              refine leaf_any d hT B M hA 0 0 0 (B + 1) (B + 1) lv av fs ats n1 x.dflt zeroIt none 0 [] [] _ _ wz.drew HX3.out (zeroIt_in B _ Hbz.out) (zeroPat B _ Hbz.out) (zeroPth B _ Hbz.out) HF3.out (.inr ⟨rfl, rfl⟩) _ (fun w4 n2 inb ta tl tc hO4 hb4 hl4 => ?_)
              rw [zero_leaf] at hl4
              have hH4 : Only (fun k => k = B ∨ k = bb ∨ Value.ownBlock (.slice p9 qs.length c9) = some k) wz w4 := hHeld.trans (hO4.mono (fun _ _ e => .inl e))
              refine ⟨_, rfl, hH4, ?_⟩
              clear hHeld
              have hHeld := hH4
              clear hH4
              have hbx1 := hO4.blk Hst3.out.box Hbne.out
              have hown1 := Own.turn Hst3d.out.own hO4 hBz2
              have hz4 : wz.heap.size ≤ w4.heap.size := hO4.size
              try simp only [ν1, ν2, ν3, ν4, ν5, ν6, ν7, ν8]
              refine wpAnyH_ready (rs := [7]) (by kernel_rfl) (by simp) ?_
              have hH5 : Only (fun k => k = B ∨ k = bb ∨ Value.ownBlock (.slice p9 qs.length c9) = some k) wz (w4.alloc (.cells #[.int .i64 x.dflt.kind, .int .i64 x.dflt.n, .string ⟨x.dflt.s.toArray⟩, .bool inb, .slice ta tl tc] 64)) := hHeld.trans (Only.alloc w4 _)
              refine allVal (v := .slice (some ⟨w4.heap.size, 0, none⟩) 1 1) (w' := w4.alloc (.cells #[.int .i64 x.dflt.kind, .int .i64 x.dflt.n, .string ⟨x.dflt.s.toArray⟩, .bool inb, .slice ta tl tc] 64)) rfl (by kernel_rfl) (by go_simp) hH5 ?_ AllReadyH.nil
              clear hHeld
              have hHeld := hH5
              clear hH5
              have hbx2 := hbx1.below (alloc_below w4 (.cells #[.int .i64 x.dflt.kind, .int .i64 x.dflt.n, .string ⟨x.dflt.s.toArray⟩, .bool inb, .slice ta tl tc] 64)) hbx1.lt
              obtain ⟨bn, ebn⟩ : ∃ b, b = w4.heap.size := ⟨_, rfl⟩
              rw [← ebn]
              try simp only [ν1, ν2, ν3, ν4, ν5, ν6, ν7, ν8]
              refine wpAnyH_ready (rs := [8]) (by kernel_rfl) (by simp) ?_
              obtain ⟨v8, w8, hr8, ho8, ha8⟩ := app_one Try.underlying60 infoL rfl LH.len LH.one hown1 ((x.dflt, inb, ((x.dflt, false, Tr.none d) : Lf (Tr d)).2.2), (⟨ta, tl, tc⟩ : HD)) (n := bn) ebn (by have := Hst3.out.len; have := Hqlen.out; omega) (by decide) (by omega)
              simp only [LH.enc] at hr8
              have hH8 : Only (fun k => k = B ∨ k = bb ∨ Value.ownBlock (.slice p9 qs.length c9) = some k) wz w8 := (Only.trans Hst3h.out (hO4.mono (fun _ _ e => .inl e))).trans (ha8.only.mono (fun _ _ e => .inr (.inr e)))
              refine allVal (v := v8) (w' := w8) rfl (by kernel_rfl) (execApp hr8 rfl rfl rfl) hH8 ?_ AllReadyH.nil
              clear hHeld hr8 hbx2
              have hHeld := hH8
              clear hH8
              have hbx8 := ha8.blk hbx1 (fun e => by have := (Own.lt hown1 _ e).1; have := Hbbz.out; omega)
              try simp only [ν1, ν2, ν3, ν4, ν5, ν6, ν7, ν8]
              refine wpAnyH_take (i := 9) (v := .pointer (some ⟨bb, 2, none⟩)) rfl (by kernel_rfl) (by kernel_rfl) (by kernel_rfl) (fun _ _ _ h => h) (Or.inl ⟨by rfl, ?_⟩) hHeld ?_
              · intro w' hSw; go_simp
              try simp only [ν1, ν2, ν3, ν4, ν5, ν6, ν7, ν8]
              refine wpAnyH_ready (rs := [10]) (by kernel_rfl) (by simp) ?_
              obtain ⟨p8, c8, e8⟩ := Own.slice ho8
              have zc := hbx8.cells 2 _ rfl
              simp only [Nat.zero_add] at zc
              have zl := hbx8.lt
              have zf := hbx8.free 2
              have hH9 : Only (fun k => k = B ∨ k = bb ∨ Value.ownBlock (.slice p9 qs.length c9) = some k) wz (w8.setCell ⟨bb, 2, none⟩ v8) := hHeld.trans (Only.setCell (A := (fun k => k = B ∨ k = bb ∨ Value.ownBlock (.slice p9 qs.length c9) = some k)) w8 (p := ⟨bb, 2, none⟩) (.inr (.inl rfl)) _)
              refine allSkip (w' := (w8.setCell ⟨bb, 2, none⟩ v8)) rfl (by kernel_rfl) (by rw [e8]; go_simp) hH9 ?_ AllReadyH.nil
              have Hst9 := Lib.hid (BSt.leaf (u := x.dflt) Hst3d.out rfl hgr hBz2 Hbbz.out Hbne.out (rfl) hO4 hb4 hl4 ho8 ha8)
              clear hHeld zc zl zf e8
              have hHeld := hH9
              clear hH9
              try simp only [ν1, ν2, ν3, ν4, ν5, ν6, ν7, ν8]
              refine wpAnyH_done (by kernel_rfl) ?_ _
              exact ⟨⟨n2, inb, ta, tl, tc, bn, v8⟩, by kernel_rfl, hHeld, Hst9⟩
            refine allCall (f := 48) (args := #[.pointer (some ⟨B, 0, none⟩), .agg #[.int .i64 x.dflt.kind, .int .i64 x.dflt.n, .string ⟨x.dflt.s.toArray⟩], .agg #[.bool false, .string ⟨#[]⟩, .bool false, .int .i64 0, .bool false, .int .i64 0, .int .i64 0, .string ⟨#[]⟩, .bool false, .slice none 0 0, .int .i64 0], .slice none 0 0, .slice none 0 0]) rfl (by kernel_rfl) (by kernel_rfl) ?_ AllReadyH.nil
            refine leaf_any d hT B M hA 0 0 0 (B + 1) (B + 1) lv av fs ats n1 x.dflt zeroIt none 0 [] [] _ _ wz.drew HX3.out (zeroIt_in B _ Hbz.out) (zeroPat B _ Hbz.out) (zeroPth B _ Hbz.out) HF3.out (.inr ⟨rfl, rfl⟩) _ (fun w4 n2 inb ta tl tc hO4 hb4 hl4 => ?_)
            rw [zero_leaf] at hl4
            have hH4 : Only (fun k => k = B ∨ k = bb ∨ Value.ownBlock (.slice p9 qs.length c9) = some k) wz w4 := hHeld.trans (hO4.mono (fun _ _ e => .inl e))
            refine ⟨_, rfl, hH4, ?_⟩
            clear hHeld
            have hHeld := hH4
            clear hH4
            have hbx1 := hO4.blk Hst3.out.box Hbne.out
            have hown1 := Own.turn Hst3d.out.own hO4 hBz2
            have hz4 : wz.heap.size ≤ w4.heap.size := hO4.size
            try simp only [ν1, ν2, ν3, ν4, ν5, ν6, ν7, ν8]
            refine wpAnyH_ready (rs := [1, 7]) (by kernel_rfl) (by simp) ?_
            refine allVal (v := .slice p9 qs.length c9) (w' := w4) rfl (by kernel_rfl) (by have kc := hbx1.cells; have k2 := kc 2 _ rfl; simp only [Nat.zero_add] at k2; go_simp) hHeld ?_ ?_
            · try simp only [ν1, ν2, ν3, ν4, ν5, ν6, ν7, ν8]
              refine wpAnyH_ready (rs := [7]) (by kernel_rfl) (by simp) ?_
              have hH5 : Only (fun k => k = B ∨ k = bb ∨ Value.ownBlock (.slice p9 qs.length c9) = some k) wz (w4.alloc (.cells #[.int .i64 x.dflt.kind, .int .i64 x.dflt.n, .string ⟨x.dflt.s.toArray⟩, .bool inb, .slice ta tl tc] 64)) := hHeld.trans (Only.alloc w4 _)
              refine allVal (v := .slice (some ⟨w4.heap.size, 0, none⟩) 1 1) (w' := w4.alloc (.cells #[.int .i64 x.dflt.kind, .int .i64 x.dflt.n, .string ⟨x.dflt.s.toArray⟩, .bool inb, .slice ta tl tc] 64)) rfl (by kernel_rfl) (by go_simp) hH5 ?_ AllReadyH.nil
              clear hHeld
              have hHeld := hH5
              clear hH5
              have hbx2 := hbx1.below (alloc_below w4 (.cells #[.int .i64 x.dflt.kind, .int .i64 x.dflt.n, .string ⟨x.dflt.s.toArray⟩, .bool inb, .slice ta tl tc] 64)) hbx1.lt
              obtain ⟨bn, ebn⟩ : ∃ b, b = w4.heap.size := ⟨_, rfl⟩
              rw [← ebn]
              try simp only [ν1, ν2, ν3, ν4, ν5, ν6, ν7, ν8]
              refine wpAnyH_ready (rs := [8]) (by kernel_rfl) (by simp) ?_
              obtain ⟨v8, w8, hr8, ho8, ha8⟩ := app_one Try.underlying60 infoL rfl LH.len LH.one hown1 ((x.dflt, inb, ((x.dflt, false, Tr.none d) : Lf (Tr d)).2.2), (⟨ta, tl, tc⟩ : HD)) (n := bn) ebn (by have := Hst3.out.len; have := Hqlen.out; omega) (by decide) (by omega)
              simp only [LH.enc] at hr8
              have hH8 : Only (fun k => k = B ∨ k = bb ∨ Value.ownBlock (.slice p9 qs.length c9) = some k) wz w8 := (Only.trans Hst3h.out (hO4.mono (fun _ _ e => .inl e))).trans (ha8.only.mono (fun _ _ e => .inr (.inr e)))
              refine allVal (v := v8) (w' := w8) rfl (by kernel_rfl) (execApp hr8 rfl rfl rfl) hH8 ?_ AllReadyH.nil
              clear hHeld hr8 hbx2
              have hHeld := hH8
              clear hH8
              have hbx8 := ha8.blk hbx1 (fun e => by have := (Own.lt hown1 _ e).1; have := Hbbz.out; omega)
              try simp only [ν1, ν2, ν3, ν4, ν5, ν6, ν7, ν8]
              refine wpAnyH_take (i := 9) (v := .pointer (some ⟨bb, 2, none⟩)) rfl (by kernel_rfl) (by kernel_rfl) (by kernel_rfl) (fun _ _ _ h => h) (Or.inl ⟨by rfl, ?_⟩) hHeld ?_
              · intro w' hSw; go_simp
              try simp only [ν1, ν2, ν3, ν4, ν5, ν6, ν7, ν8]
              refine wpAnyH_ready (rs := [10]) (by kernel_rfl) (by simp) ?_
              obtain ⟨p8, c8, e8⟩ := Own.slice ho8
              have zc := hbx8.cells 2 _ rfl
              simp only [Nat.zero_add] at zc
              have zl := hbx8.lt
              have zf := hbx8.free 2
              have hH9 : Only (fun k => k = B ∨ k = bb ∨ Value.ownBlock (.slice p9 qs.length c9) = some k) wz (w8.setCell ⟨bb, 2, none⟩ v8) := hHeld.trans (Only.setCell (A := (fun k => k = B ∨ k = bb ∨ Value.ownBlock (.slice p9 qs.length c9) = some k)) w8 (p := ⟨bb, 2, none⟩) (.inr (.inl rfl)) _)
              refine allSkip (w' := (w8.setCell ⟨bb, 2, none⟩ v8)) rfl (by kernel_rfl) (by rw [e8]; go_simp) hH9 ?_ AllReadyH.nil
              have Hst9 := Lib.hid (BSt.leaf (u := x.dflt) Hst3d.out rfl hgr hBz2 Hbbz.out Hbne.out (rfl) hO4 hb4 hl4 ho8 ha8)
              clear hHeld zc zl zf e8
              have hHeld := hH9
              clear hH9
              try simp only [ν1, ν2, ν3, ν4, ν5, ν6, ν7, ν8]
              refine wpAnyH_done (by kernel_rfl) ?_ _
              exact ⟨⟨n2, inb, ta, tl, tc, bn, v8⟩, by kernel_rfl, hHeld, Hst9⟩
            have hH5 : Only (fun k => k = B ∨ k = bb ∨ Value.ownBlock (.slice p9 qs.length c9) = some k) wz (w4.alloc (.cells #[.int .i64 x.dflt.kind, .int .i64 x.dflt.n, .string ⟨x.dflt.s.toArray⟩, .bool inb, .slice ta tl tc] 64)) := hHeld.trans (Only.alloc w4 _)
            refine allVal (v := .slice (some ⟨w4.heap.size, 0, none⟩) 1 1) (w' := w4.alloc (.cells #[.int .i64 x.dflt.kind, .int .i64 x.dflt.n, .string ⟨x.dflt.s.toArray⟩, .bool inb, .slice ta tl tc] 64)) rfl (by kernel_rfl) (by go_simp) hH5 ?_ AllReadyH.nil
            clear hHeld
            have hHeld := hH5
            clear hH5
            have hbx2 := hbx1.below (alloc_below w4 (.cells #[.int .i64 x.dflt.kind, .int .i64 x.dflt.n, .string ⟨x.dflt.s.toArray⟩, .bool inb, .slice ta tl tc] 64)) hbx1.lt
            obtain ⟨bn, ebn⟩ : ∃ b, b = w4.heap.size := ⟨_, rfl⟩
            rw [← ebn]
            try simp only [ν1, ν2, ν3, ν4, ν5, ν6, ν7, ν8]
            refine wpAnyH_ready (rs := [1]) (by kernel_rfl) (by simp) ?_
            refine allVal (v := .slice p9 qs.length c9) (w' := (w4.alloc (.cells #[.int .i64 x.dflt.kind, .int .i64 x.dflt.n, .string ⟨x.dflt.s.toArray⟩, .bool inb, .slice ta tl tc] 64))) rfl (by kernel_rfl) (by have kc := hbx2.cells; have k2 := kc 2 _ rfl; simp only [Nat.zero_add] at k2; go_simp) hHeld ?_ AllReadyH.nil
            try simp only [ν1, ν2, ν3, ν4, ν5, ν6, ν7, ν8]
            refine wpAnyH_ready (rs := [8]) (by kernel_rfl) (by simp) ?_
            obtain ⟨v8, w8, hr8, ho8, ha8⟩ := app_one Try.underlying60 infoL rfl LH.len LH.one hown1 ((x.dflt, inb, ((x.dflt, false, Tr.none d) : Lf (Tr d)).2.2), (⟨ta, tl, tc⟩ : HD)) (n := bn) ebn (by have := Hst3.out.len; have := Hqlen.out; omega) (by decide) (by omega)
            simp only [LH.enc] at hr8
            have hH8 : Only (fun k => k = B ∨ k = bb ∨ Value.ownBlock (.slice p9 qs.length c9) = some k) wz w8 := (Only.trans Hst3h.out (hO4.mono (fun _ _ e => .inl e))).trans (ha8.only.mono (fun _ _ e => .inr (.inr e)))
            refine allVal (v := v8) (w' := w8) rfl (by kernel_rfl) (execApp hr8 rfl rfl rfl) hH8 ?_ AllReadyH.nil
            clear hHeld hr8 hbx2
            have hHeld := hH8
            clear hH8
            have hbx8 := ha8.blk hbx1 (fun e => by have := (Own.lt hown1 _ e).1; have := Hbbz.out; omega)
            try simp only [ν1, ν2, ν3, ν4, ν5, ν6, ν7, ν8]
            refine wpAnyH_take (i := 9) (v := .pointer (some ⟨bb, 2, none⟩)) rfl (by kernel_rfl) (by kernel_rfl) (by kernel_rfl) (fun _ _ _ h => h) (Or.inl ⟨by rfl, ?_⟩) hHeld ?_
            · intro w' hSw; go_simp
            try simp only [ν1, ν2, ν3, ν4, ν5, ν6, ν7, ν8]
            refine wpAnyH_ready (rs := [10]) (by kernel_rfl) (by simp) ?_
            obtain ⟨p8, c8, e8⟩ := Own.slice ho8
            have zc := hbx8.cells 2 _ rfl
            simp only [Nat.zero_add] at zc
            have zl := hbx8.lt
            have zf := hbx8.free 2
            have hH9 : Only (fun k => k = B ∨ k = bb ∨ Value.ownBlock (.slice p9 qs.length c9) = some k) wz (w8.setCell ⟨bb, 2, none⟩ v8) := hHeld.trans (Only.setCell (A := (fun k => k = B ∨ k = bb ∨ Value.ownBlock (.slice p9 qs.length c9) = some k)) w8 (p := ⟨bb, 2, none⟩) (.inr (.inl rfl)) _)
            refine allSkip (w' := (w8.setCell ⟨bb, 2, none⟩ v8)) rfl (by kernel_rfl) (by rw [e8]; go_simp) hH9 ?_ AllReadyH.nil
            have Hst9 := Lib.hid (BSt.leaf (u := x.dflt) Hst3d.out rfl hgr hBz2 Hbbz.out Hbne.out (rfl) hO4 hb4 hl4 ho8 ha8)
            clear hHeld zc zl zf e8
            have hHeld := hH9
            clear hH9
            try simp only [ν1, ν2, ν3, ν4, ν5, ν6, ν7, ν8]
            refine wpAnyH_done (by kernel_rfl) ?_ _
            exact ⟨⟨n2, inb, ta, tl, tc, bn, v8⟩, by kernel_rfl, hHeld, Hst9⟩
          rintro ⟨n2, inb, ta, tl, tc, bn, v8⟩ w9 ⟨hO9, Hst9⟩
          simp only [List.foldl_cons, List.foldl_nil]
          try simp only [ν1, ν2, ν3, ν4, ν5, ν6, ν7, ν8]
          have Hq0 := Hq0s
          have HLo : Hid (LOut d w2.heap.size w9 n n2 v8 (leavesP fs ats d (treeP fs ats d) e x (ps.map (·.1)) path)) := Lib.hid (by
            rw [HLv.out, if_pos rfl]
            exact Hst9.out.out (.inr rfl) (Nat.le_refl _))
          have hO9b := Hst9.out.only
          obtain ⟨p8, c8, e8⟩ := Own.slice Hst9.out.own
          subst e8
          have hln : (qs ++ [((x.dflt, inb, ((x.dflt, false, Tr.none d) : Lf (Tr d)).2.2), (⟨ta, tl, tc⟩ : HD))]).length = qs.length + 1 := by simp
          rw [hln] at HLo Hst9 ⊢
          have Hx9 := Lib.hid Hst9.out.box
          have Hb9 := Lib.hid Hst9.out.blk
          clear hO9 x4 yb hq0 hln
          obtain ⟨-, -, -, -, g4, gD⟩ := Hq0.out w9 hO9b
          obtain ⟨e0, e1, e2⟩ := branch_cells Hx9.out.cells
          simp only [Nat.zero_add] at e1 e2
          obtain ⟨o0, o1, o2⟩ := branch_cells g4.cells
          simp only [Nat.zero_add] at o1 o2
          have hzw := hO9b.size
          have hqs := Hq.out
          have hqs9 := Hq9.out
          have ol := g4.lt
          have of0 := g4.free 0
          have of1 := g4.free 1
          have of2 := g4.free 2
          have h4 := Blk.set3 g4 (.string ⟨x.attr.toArray⟩) (.bool x.back) (.slice p8 (qs.length + 1) c8)
          have hO4 := only_set3 w9 q4 (.string ⟨x.attr.toArray⟩) (.bool x.back) (.slice p8 (qs.length + 1) c8)
          have hD4 : (set3 w9 q4 (.string ⟨x.attr.toArray⟩) (.bool x.back) (.slice p8 (qs.length + 1) c8)).heap[Db]? = some (.deferred (some [])) := (hO4.block Db (by omega) (by omega)).trans gD
          have hO5 : Only (· = Db) (set3 w9 q4 (.string ⟨x.attr.toArray⟩) (.bool x.back) (.slice p8 (qs.length + 1) c8)) ((set3 w9 q4 (.string ⟨x.attr.toArray⟩) (.bool x.back) (.slice p8 (qs.length + 1) c8)).putObj Db (.deferred none)) := Only.putObj (A := (· = Db)) _ (b := Db) rfl _
          have hO45 : Only (fun k => k = q4 ∨ k = Db) w9 ((set3 w9 q4 (.string ⟨x.attr.toArray⟩) (.bool x.back) (.slice p8 (qs.length + 1) c8)).putObj Db (.deferred none)) := (hO4.mono (fun _ _ e => .inl e)).trans (hO5.mono (fun _ _ e => .inr e))
          have hO46 : Only (fun k => k = B ∨ k = bb ∨ k = L ∨ k = q4 ∨ k = Db) w2 ((set3 w9 q4 (.string ⟨x.attr.toArray⟩) (.bool x.back) (.slice p8 (qs.length + 1) c8)).putObj Db (.deferred none)) := (hO9b.mono (fun _ _ e => by omega)).trans (hO45.mono (fun _ _ e => by omega))
          have hr := HR.out _ n2 p8 (qs.length + 1) c8 ((Below.only HBw2.out).join (A := fun k => k = B ∨ k = bb ∨ k = L ∨ k = q4 ∨ k = Db) hO46 (fun k hk e => by omega)) (hO45.blk Hb9.out (by omega)) ((HLo.out.agree (hO45.agree (Nat.le_refl _) (fun k e => .inl (by omega))) hO45.size).lower HBw2.out.size)
          have HT2 := Lib.hid (fun (fn : Func) (tmps : Array Value) hfn ht => brTail (n := 3) (fn := fn) (tmps := tmps) (R := R) hfn ht h4 hD4 hr)
          unfold set3 at HT2
          clear g4 gD h4 hO4 hD4 hO5 hO45 hO46 hr hO9b
          go_wp2_with fail
          first | exact HT2.out _ _ rfl rfl | (simp only [Exit.noGoto]; exact HT2.out _ _ rfl rfl)
        | false =>
          have HLo : Hid (LOut d w2.heap.size W7 n n1 (.slice p9 qs.length c9) (leavesP fs ats d (treeP fs ats d) e x (ps.map (·.1)) path)) := Lib.hid (by
            rw [HLv.out, if_neg (by decide), ← Hpl0.out]
            exact HS7.out.out (.inr (by rw [Hpl0.out]; rfl)) (Nat.le_refl _))
          have hO9b := HS7.out.only
          have Hx9 := Lib.hid HS7.out.box
          have Hb9 := Lib.hid HS7.out.blk
          obtain ⟨-, -, -, -, g4, gD⟩ := Hq0.out W7 hO9b
          obtain ⟨e0, e1, e2⟩ := branch_cells Hx9.out.cells
          simp only [Nat.zero_add] at e1 e2
          obtain ⟨o0, o1, o2⟩ := branch_cells g4.cells
          simp only [Nat.zero_add] at o1 o2
          have hzw := hO9b.size
          have hqs := Hq.out
          have hqs9 := Hq9.out
          have ol := g4.lt
          have of0 := g4.free 0
          have of1 := g4.free 1
          have of2 := g4.free 2
          have h4 := Blk.set3 g4 (.string ⟨x.attr.toArray⟩) (.bool x.back) (.slice p9 qs.length c9)
          have hO4 := only_set3 W7 q4 (.string ⟨x.attr.toArray⟩) (.bool x.back) (.slice p9 qs.length c9)
          have hD4 : (set3 W7 q4 (.string ⟨x.attr.toArray⟩) (.bool x.back) (.slice p9 qs.length c9)).heap[Db]? = some (.deferred (some [])) := (hO4.block Db (by omega) (by omega)).trans gD
          have hO5 : Only (· = Db) (set3 W7 q4 (.string ⟨x.attr.toArray⟩) (.bool x.back) (.slice p9 qs.length c9)) ((set3 W7 q4 (.string ⟨x.attr.toArray⟩) (.bool x.back) (.slice p9 qs.length c9)).putObj Db (.deferred none)) := Only.putObj (A := (· = Db)) _ (b := Db) rfl _
          have hO45 : Only (fun k => k = q4 ∨ k = Db) W7 ((set3 W7 q4 (.string ⟨x.attr.toArray⟩) (.bool x.back) (.slice p9 qs.length c9)).putObj Db (.deferred none)) := (hO4.mono (fun _ _ e => .inl e)).trans (hO5.mono (fun _ _ e => .inr e))
          have hO46 : Only (fun k => k = B ∨ k = bb ∨ k = L ∨ k = q4 ∨ k = Db) w2 ((set3 W7 q4 (.string ⟨x.attr.toArray⟩) (.bool x.back) (.slice p9 qs.length c9)).putObj Db (.deferred none)) := (hO9b.mono (fun _ _ e => by omega)).trans (hO45.mono (fun _ _ e => by omega))
          have hr := HR.out _ n1 p9 qs.length c9 ((Below.only HBw2.out).join (A := fun k => k = B ∨ k = bb ∨ k = L ∨ k = q4 ∨ k = Db) hO46 (fun k hk e => by omega)) (hO45.blk Hb9.out (by omega)) ((HLo.out.agree (hO45.agree (Nat.le_refl _) (fun k e => .inl (by omega))) hO45.size).lower HBw2.out.size)
          have HT2 := Lib.hid (fun (fn : Func) (tmps : Array Value) hfn ht => brTail (n := 3) (fn := fn) (tmps := tmps) (R := R) hfn ht h4 hD4 hr)
          unfold set3 at HT2
          clear g4 gD h4 hO4 hD4 hO5 hO45 hO46 hr hO9b
          go_wp2_with fail
          first | exact HT2.out _ _ rfl rfl | (simp only [Exit.noGoto]; exact HT2.out _ _ rfl rfl)
      · have hq0 : ((qs.length : Int) == 0) = false := by have h1 := HS7.out.len; simp [h1]; exact h0
        have HLv : Hid (leavesP fs ats d (treeP fs ats d) e x (ps.map (·.1)) path = pl) := Lib.hid (by
          unfold leavesP
          rw [← Hvs.out, if_neg (by intro h; have h2 := Hpl.out; rw [h] at h2; have := HS7.out.ile; rw [h2] at this; simp at this; exact h0 this), Hpl.out])
        have HLo : Hid (LOut d w2.heap.size W7 n n1 (.slice p9 qs.length c9) (leavesP fs ats d (treeP fs ats d) e x (ps.map (·.1)) path)) := Lib.hid (by
          rw [HLv.out]
          exact HS7.out.out Hfull.out (Nat.le_refl _))
        have hO9b := HS7.out.only
        have Hx9 := Lib.hid HS7.out.box
        have Hb9 := Lib.hid HS7.out.blk
        clear x4
        obtain ⟨-, -, -, -, g4, gD⟩ := Hq0.out W7 hO9b
        obtain ⟨e0, e1, e2⟩ := branch_cells Hx9.out.cells
        simp only [Nat.zero_add] at e1 e2
        obtain ⟨o0, o1, o2⟩ := branch_cells g4.cells
        simp only [Nat.zero_add] at o1 o2
        have hzw := hO9b.size
        have hqs := Hq.out
        have hqs9 := Hq9.out
        have ol := g4.lt
        have of0 := g4.free 0
        have of1 := g4.free 1
        have of2 := g4.free 2
        have h4 := Blk.set3 g4 (.string ⟨x.attr.toArray⟩) (.bool x.back) (.slice p9 qs.length c9)
        have hO4 := only_set3 W7 q4 (.string ⟨x.attr.toArray⟩) (.bool x.back) (.slice p9 qs.length c9)
        have hD4 : (set3 W7 q4 (.string ⟨x.attr.toArray⟩) (.bool x.back) (.slice p9 qs.length c9)).heap[Db]? = some (.deferred (some [])) := (hO4.block Db (by omega) (by omega)).trans gD
        have hO5 : Only (· = Db) (set3 W7 q4 (.string ⟨x.attr.toArray⟩) (.bool x.back) (.slice p9 qs.length c9)) ((set3 W7 q4 (.string ⟨x.attr.toArray⟩) (.bool x.back) (.slice p9 qs.length c9)).putObj Db (.deferred none)) := Only.putObj (A := (· = Db)) _ (b := Db) rfl _
        have hO45 : Only (fun k => k = q4 ∨ k = Db) W7 ((set3 W7 q4 (.string ⟨x.attr.toArray⟩) (.bool x.back) (.slice p9 qs.length c9)).putObj Db (.deferred none)) := (hO4.mono (fun _ _ e => .inl e)).trans (hO5.mono (fun _ _ e => .inr e))
        have hO46 : Only (fun k => k = B ∨ k = bb ∨ k = L ∨ k = q4 ∨ k = Db) w2 ((set3 W7 q4 (.string ⟨x.attr.toArray⟩) (.bool x.back) (.slice p9 qs.length c9)).putObj Db (.deferred none)) := (hO9b.mono (fun _ _ e => by omega)).trans (hO45.mono (fun _ _ e => by omega))
        have hr := HR.out _ n1 p9 qs.length c9 ((Below.only HBw2.out).join (A := fun k => k = B ∨ k = bb ∨ k = L ∨ k = q4 ∨ k = Db) hO46 (fun k hk e => by omega)) (hO45.blk Hb9.out (by omega)) ((HLo.out.agree (hO45.agree (Nat.le_refl _) (fun k e => .inl (by omega))) hO45.size).lower HBw2.out.size)
        have HT2 := Lib.hid (fun (fn : Func) (tmps : Array Value) hfn ht => brTail (n := 3) (fn := fn) (tmps := tmps) (R := R) hfn ht h4 hD4 hr)
        unfold set3 at HT2
        clear g4 gD h4 hO4 hD4 hO5 hO45 hO46 hr hO9b
        go_wp2_with fail
        first | exact HT2.out _ _ rfl rfl | (simp only [Exit.noGoto]; exact HT2.out _ _ rfl rfl)
end Go.Proofs.Yticbhfmpnmolcaa
end

/- Branches of a call's own, sorted by the library. (Printed by puly.py.) -/
section
set_option linter.unusedVariables false
set_option linter.unusedSimpArgs false
namespace Go.Proofs.Yticbhfmpnmolcaa
open Go.RowKit Go.Sort Go.Shelf
set_option linter.unusedVariables false
set_option linter.unusedSimpArgs false
/-- A world that came of another one by draws and new blocks alone. -/
def Gw (w w' : World) : Prop := ∃ (q : Nat) (os : Array Obj), w' = grow (w.drewN q) os
theorem Gw.refl (w : World) : Gw w w := ⟨0, #[], by rw [grow_empty]; rfl⟩
theorem Gw.trans {a b c : World} (h : Gw a b) (k : Gw b c) : Gw a c := by
  obtain ⟨q, os, rfl⟩ := h
  obtain ⟨q2, os2, rfl⟩ := k
  exact ⟨q + q2, os ++ os2, by
    show grow (grow ((a.drewN q).drewN q2) os) os2 = _
    rw [grow_grow]
    congr 1
    simp [World.drewN, Nat.add_assoc]⟩
theorem Gw.alloc {a b : World} (h : Gw a b) (o : Obj) : Gw a (b.alloc o) := h.trans ⟨0, #[o], by rw [← alloc_eq_grow]; rfl⟩
theorem Gw.drew {a b : World} (h : Gw a b) : Gw a b.drew := h.trans ⟨1, #[], by rw [grow_empty]; rfl⟩
theorem Gw.drewN {a b : World} (h : Gw a b) (n : Nat) : Gw a (b.drewN n) := h.trans ⟨n, #[], by rw [grow_empty]⟩
set_option maxRecDepth 100000 in
set_option maxHeartbeats 4000000 in
theorem pCompareG_any (x y : S × Bool) (l1 l2 : Option Addr) (n1 c1 n2 c2 : Nat) (w : World) (R : Ending → World → Prop) (hR : ∀ w', Gw w w' → R (.returned (.int .i64 (cmpK x y))) w') :
    Calls Try.prog 26 #[.agg #[.string ⟨x.1.toArray⟩, .bool x.2, .slice l1 n1 c1], .agg #[.string ⟨y.1.toArray⟩, .bool y.2, .slice l2 n2 c2]] w R := by
  go_enter Try.func26, Try.ntmps26
  go_wp2_with fail
  refine wp_region_still_tail 12 (by kernel_rfl) (by kernel_rfl) ?_
  change wpStill _ _ (World.drew _) (fun a' => wpList _ _ _ _ a' (World.drew _)) _ _
  simp only [List.take_succ_cons, List.take_zero, List.drop_succ_cons, List.drop_zero]
  repeat still_step
  still_call (strings_Compare _ _ _ _ ⟨rfl, rfl⟩)
  repeat still_step
  still_call (behind_any _ _ _ ⟨rfl, rfl⟩)
  repeat still_step
  still_call (behind_any _ _ _ ⟨rfl, rfl⟩)
  repeat still_step
  still_call (cmp_int _ _ _ _ ⟨rfl, rfl⟩)
  refine wpStill_nil ?_
  go_wp2_with fail
  refine Or2 _ _ _ _ ((CellsAt.newAt _ [.int .i64 (Lib.compareBytes x.1 y.1), .int .i64 (icmp (b2i x.2) (b2i y.2))] _ (by simp)).drew) _ ?_
  have e : (if Lib.compareBytes x.1 y.1 ≠ 0 then Lib.compareBytes x.1 y.1 else icmp (b2i x.2) (b2i y.2)) = cmpK x y := rfl
  rw [e]
  go_wp2_with fail
  exact (((Gw.refl _).alloc _).alloc _).alloc _ |>.drew
theorem heap_sortRow {α : Type} [Inhabited α] {enc : α → Value} {w : World} {g n : Nat} {os : Array Obj} {cur : Array Value} {e : TypeId} {fr : Nat × Nat} (d : Array α) (hb : w.heap[g]? = some (.cells cur e fr)) :
    (sortWorld enc w g 0 n d os).heap[g]? = some (.cells (putCells enc 0 d cur) e fr) := by
  have hg : g < w.heap.size := (Array.getElem?_eq_some_iff.1 hb).1
  unfold sortWorld
  rw [heap_grow_old _ _ (by simpa using hg)]
  simp [putRow, mapBlock, Sort.ahead, Array.getElem?_modify, hb, onCells]
theorem heap_sortOther {α : Type} [Inhabited α] {enc : α → Value} {w : World} {g n : Nat} {os : Array Obj} (d : Array α) {k : Nat} (hk : k < w.heap.size) (hne : k ≠ g) : (sortWorld enc w g 0 n d os).heap[k]? = w.heap[k]? := by
  unfold sortWorld
  rw [heap_grow_old _ _ (by simpa using hk)]
  simp [putRow, mapBlock, Sort.ahead, Array.getElem?_modify]
  intro e
  exact absurd e.symm hne
theorem size_sort {α : Type} [Inhabited α] {enc : α → Value} {w : World} {g n : Nat} {os : Array Obj} (d : Array α) : w.heap.size ≤ (sortWorld enc w g 0 n d os).heap.size := by
  simp [sortWorld, grow, putRow, mapBlock, Sort.ahead]
theorem take_putCells' {α : Type} [Inhabited α] (enc : α → Value) (cur : Array Value) (d : Array α) (h : d.size ≤ cur.size) : (putCells enc 0 d cur).toList.take d.size = d.toList.map enc := by
  apply List.ext_getElem?
  intro j
  by_cases hj : j < d.size
  · rw [List.getElem?_take_of_lt hj, Array.getElem?_toList]
    simp [putCells, hj, show j < cur.size by omega]
  · rw [List.getElem?_take_eq_none (by omega), List.getElem?_eq_none (by simp; omega)]
theorem flatMap_len {α : Type} {enc : α → List Value} {size : Nat} (henc : ∀ x, (enc x).length = size) : ∀ (l : List α), (l.flatMap enc).length = l.length * size := by
  intro l; induction l with
  | nil => simp
  | cons x r ih => simp [henc, ih, Nat.add_mul, Nat.add_comm]
theorem flatMap_at {α : Type} {enc : α → List Value} {size : Nat} (henc : ∀ x, (enc x).length = size) (xs : List α) {k j : Nat} (hk : k < xs.length) (hj : j < size) : (xs.flatMap enc)[k * size + j]? = (enc xs[k])[j]? := by
  have hlen := flatMap_len henc
  have hx : xs = xs.take k ++ xs[k] :: xs.drop (k + 1) := by rw [← List.drop_eq_getElem_cons hk, List.take_append_drop]
  have hf : xs.flatMap enc = (xs.take k).flatMap enc ++ (enc xs[k] ++ (xs.drop (k + 1)).flatMap enc) := by
    exact (congrArg (List.flatMap enc) hx).trans (by rw [List.flatMap_append, List.flatMap_cons])
  rw [hf, List.getElem?_append_right (by rw [hlen, List.length_take]; rw [Nat.min_eq_left (by omega)]; omega), hlen, List.length_take, Nat.min_eq_left (by omega), show k * size + j - k * size = j by omega, List.getElem?_append_left (by rw [henc]; exact hj)]
theorem flatB_list {T : Type} (d : Array (BH T)) : (flatK BH.enc 3 d).toList = d.toList.flatMap BH.enc := by
  have hlen : (d.toList.flatMap BH.enc).length = d.size * 3 := (flatMap_len (enc := BH.enc) (size := 3) (fun _ => rfl) d.toList).trans (by rw [Array.length_toList])
  apply List.ext_getElem (by rw [Array.length_toList, size_flatK, hlen])
  intro t h1 h2
  have ht : t < d.size * 3 := by rw [hlen] at h2; exact h2
  have hk : t / 3 < d.toList.length := by rw [Array.length_toList]; omega
  have e := flatMap_at (enc := BH.enc) (size := 3) (fun _ => rfl) d.toList hk (j := t % 3) (by omega)
  rw [show t / 3 * 3 + t % 3 = t by omega, List.getElem?_eq_getElem h2, List.getElem?_eq_getElem (show t % 3 < (BH.enc d.toList[t / 3]).length by show t % 3 < 3; omega)] at e
  injection e with e
  rw [e, Array.getElem_toList]
  have e2 := get_flatK BH.enc 3 d t ht
  rw [getElem!_pos _ t (by rw [size_flatK]; exact ht), getElem!_pos d (t / 3) (by omega), getElem!_pos (BH.enc d[t / 3]) (t % 3) (by show t % 3 < 3; omega)] at e2
  rw [e2]
  rfl
def cmpBH {T : Type} (a b : BH T) : Int := cmpK (keyB a.1) (keyB b.1)
theorem cmpBH_swo {T : Type} : SWO (ltOf (cmpBH (T := T))) where
  irrefl p := by
    unfold ltOf cmpBH
    rw [(cmpK_cmp.zero _ _).2 rfl]
    simp
  trans p q r h1 h2 := by
    unfold ltOf cmpBH at *
    simp only [decide_eq_true_eq] at *
    exact cmpK_cmp.trans _ _ _ h1 h2
  ntrans p q r h1 h2 := by
    unfold ltOf cmpBH at *
    simp only [decide_eq_false_iff_not] at *
    intro h3
    have a1 := cmpK_cmp.three (keyB p.1) (keyB q.1)
    have a2 := cmpK_cmp.three (keyB q.1) (keyB r.1)
    by_cases e1 : cmpK (keyB p.1) (keyB q.1) = 0
    · rw [(cmpK_cmp.zero _ _).1 e1] at h3; omega
    · by_cases e2 : cmpK (keyB q.1) (keyB r.1) = 0
      · rw [← (cmpK_cmp.zero _ _).1 e2] at h3; omega
      · have b1 := cmpK_cmp.anti (keyB p.1) (keyB q.1)
        have b2 := cmpK_cmp.anti (keyB q.1) (keyB r.1)
        have := cmpK_cmp.trans (keyB r.1) (keyB q.1) (keyB p.1) (by omega) (by omega)
        have b3 := cmpK_cmp.anti (keyB p.1) (keyB r.1)
        omega
theorem compareB_sort {T : Type} {g n : Nat} {w : World} : CmpLays Try.prog 26 #[] (BH.enc (T := T)) 3 cmpBH g 0 n w := by
  intro m os dk hs x y
  have h := pCompareG_any (keyB x.1) (keyB y.1) x.2.a y.2.a x.2.n x.2.c y.2.n y.2.c (sortWorldK BH.enc 3 w g 0 m dk os)
    (fun e w' => e = .returned (.int .i64 (cmpBH x y)) ∧ ∃ q os', w' = grow ((sortWorldK BH.enc 3 w g 0 m dk os).drewN q) os') (fun w' hg => ⟨rfl, hg⟩)
  simpa [BH.enc, keyB] using h
set_option maxRecDepth 100000 in
set_option maxHeartbeats 2000000 in
/-- slices.SortFunc of values of a call's own. -/
theorem sortBrs_any {T : Type} (lo : Nat) (v : Value) (xs : List (BH T)) (w : World) (h : OwnBr T lo w v xs) (hlen : xs.length ≤ 1000000000000) (R : Ending → World → Prop)
    (hR : ∀ w' xs', Only (fun z => v.ownBlock = some z) w w' → OwnBr T lo w' v xs' → xs'.Perm xs → xs'.Pairwise (fun a b => ¬ cmpBH b a < 0) → R (.returned (.tuple #[])) w') :
    Calls Try.prog 25 #[v, .func (.func 26) #[] #[]] w R := by
  by_cases hx : xs = []
  · subst hx
    obtain ⟨p, cap, hv⟩ := Own.slice h
    have hv' : v = .slice p 0 cap := hv
    have hr := hR w [] (Only.refl _ _) h (List.Perm.refl _) List.Pairwise.nil
    subst hv'
    have hc := AnyF.slices_SortFunc_none (P := Try.prog) { sortBrs with } p cap (.func (.func 26) #[] #[]) w
    exact hc.mono (fun e w' ⟨he, hw⟩ => by rw [he, hw]; exact hr)
  · rcases h.2 with ⟨-, hn⟩ | ⟨g, cap, cur, hv, hb, hg, hnc, hcm, hcs, htake⟩
    · exact absurd (List.eq_nil_of_length_eq_zero hn) hx
    have hgl : g < w.heap.size := (Array.getElem?_eq_some_iff.1 hg).1
    obtain ⟨d, hd⟩ : ∃ d : Array (BH T), d = xs.toArray := ⟨_, rfl⟩
    have hds : d.size = xs.length := by rw [hd]; simp
    have hdl : d.toList = xs := by rw [hd]
    have hfl := flatMap_len (enc := (BH.enc (T := T))) (size := 3) (fun _ => rfl) xs
    have hH : HoldsK (BH.enc (T := T)) 3 w g 0 d := by
      intro j hj
      rw [size_flatK] at hj
      refine ⟨?_, by simp [World.frozen?, hg]⟩
      have h1 : (cur.toList.take (xs.length * 3))[j]? = (flatK (BH.enc (T := T)) 3 d).toList[j]? := by rw [htake, flatB_list, hdl]
      rw [List.getElem?_take_of_lt (by rw [← hds]; exact hj)] at h1
      simp only [World.cell?, hg, Nat.zero_add]
      simp only [Option.isSome_none, Bool.false_eq_true, if_false]
      rw [← Array.getElem?_toList, h1, Array.getElem?_toList, Array.getElem?_eq_getElem (by rw [size_flatK]; exact hj), getElem!_pos _ j (by rw [size_flatK]; exact hj)]
      rfl
    have hc := AnyQ.slices_SortFunc (P := Try.prog) sortBrs 3 (fun _ => by kernel_rfl) (fun _ => by kernel_rfl) (BH.enc (T := T)) (fun _ => rfl) BH.one cmpBH cmpBH_swo 26 #[] g 0 cap d w (enters_of Try.func26 (by kernel_rfl) rfl) compareB_sort hH hgl (by omega)
    rw [hds] at hc
    rw [hv]
    refine Calls.mono hc (fun e w' ⟨he, d', n, os, hp, hso, hw⟩ => ?_)
    subst he
    have hd's : d'.size = xs.length := by rw [hp.1, hds]
    have hperm : d'.toList.Perm d.toList := by
      have := hp.2.2
      rwa [Array.extract_eq_self_of_le (by omega), Array.extract_eq_self_of_le (by omega)] at this
    have hw2 : w' = sortWorld id w g 0 n (flatK (BH.enc (T := T)) 3 d') os := hw
    have hgl' := size_sort (enc := id) (w := w) (g := g) (n := n) (os := os) (flatK (BH.enc (T := T)) 3 d')
    refine hR w' d'.toList (by rw [hw2, hv]; exact ⟨rfl, rfl, rfl, hgl', fun k hk hn => heap_sortOther (flatK (BH.enc (T := T)) 3 d') hk (fun e => hn (by rw [e]; rfl))⟩) ?_ (by rw [← hdl]; exact hperm) ?_
    · have hl' : d'.toList.length = xs.length := by simp [hd's]
      refine ⟨by rw [flatMap_len (enc := (BH.enc (T := T))) (size := 3) (fun _ => rfl)], .inr ⟨g, cap, _, by rw [hl', hv], hb, by rw [hw2]; exact heap_sortRow (flatK (BH.enc (T := T)) 3 d') hg, by rw [hl']; exact hnc, hcm, by simp [putCells, hcs], ?_⟩⟩
      have := take_putCells' id cur (flatK (BH.enc (T := T)) 3 d') (by rw [size_flatK, hd's]; rw [hcs]; exact Nat.mul_le_mul_right 3 hnc)
      rw [size_flatK, flatB_list, List.map_id] at this
      rw [Array.length_toList]
      exact this
    · rw [List.pairwise_iff_getElem]
      intro i j hi hj hij
      have := hso i j (Nat.zero_le _) hij (by have : j < d'.toList.length := hj; rw [Array.length_toList] at this; omega)
      rw [getElem!_pos d' i (by simpa using hi), getElem!_pos d' j (by simpa using hj)] at this
      unfold ltOf at this
      simpa using this
end Go.Proofs.Yticbhfmpnmolcaa
end

/- slices.DeleteFunc of items of a call's own; slices.ContainsFunc of facts; the closures of pull's items. (Printed by pulz.py.) -/
section
set_option linter.unusedVariables false
set_option linter.unusedSimpArgs false
namespace Go.Proofs.Yticbhfmpnmolcaa
open Go.RowKit
set_option linter.unusedVariables false
set_option linter.unusedSimpArgs false
def set11 (w : World) (b o : Nat) (v0 v1 v2 v3 v4 v5 v6 v7 v8 v9 v10 : Value) : World := (((((((((((w.setCell ⟨b, o, none⟩ v0).setCell ⟨b, o + 1, none⟩ v1).setCell ⟨b, o + 2, none⟩ v2).setCell ⟨b, o + 3, none⟩ v3).setCell ⟨b, o + 4, none⟩ v4).setCell ⟨b, o + 5, none⟩ v5).setCell ⟨b, o + 6, none⟩ v6).setCell ⟨b, o + 7, none⟩ v7).setCell ⟨b, o + 8, none⟩ v8).setCell ⟨b, o + 9, none⟩ v9).setCell ⟨b, o + 10, none⟩ v10)
theorem only_set11 (w : World) (b o : Nat) (v0 v1 v2 v3 v4 v5 v6 v7 v8 v9 v10 : Value) : Only (· = b) w (set11 w b o v0 v1 v2 v3 v4 v5 v6 v7 v8 v9 v10) := (((((((((((Only.refl _ w).trans (Only.setCell (A := (· = b)) _ (p := ⟨b, o, none⟩) rfl v0)).trans (Only.setCell (A := (· = b)) _ (p := ⟨b, o + 1, none⟩) rfl v1)).trans (Only.setCell (A := (· = b)) _ (p := ⟨b, o + 2, none⟩) rfl v2)).trans (Only.setCell (A := (· = b)) _ (p := ⟨b, o + 3, none⟩) rfl v3)).trans (Only.setCell (A := (· = b)) _ (p := ⟨b, o + 4, none⟩) rfl v4)).trans (Only.setCell (A := (· = b)) _ (p := ⟨b, o + 5, none⟩) rfl v5)).trans (Only.setCell (A := (· = b)) _ (p := ⟨b, o + 6, none⟩) rfl v6)).trans (Only.setCell (A := (· = b)) _ (p := ⟨b, o + 7, none⟩) rfl v7)).trans (Only.setCell (A := (· = b)) _ (p := ⟨b, o + 8, none⟩) rfl v8)).trans (Only.setCell (A := (· = b)) _ (p := ⟨b, o + 9, none⟩) rfl v9)).trans (Only.setCell (A := (· = b)) _ (p := ⟨b, o + 10, none⟩) rfl v10)
theorem Blk.set11 {w : World} {b : Nat} {l : List Value} {t : TypeId} (hB : Blk w b l t) (o : Nat) (v0 v1 v2 v3 v4 v5 v6 v7 v8 v9 v10 : Value) : Blk (set11 w b o v0 v1 v2 v3 v4 v5 v6 v7 v8 v9 v10) b (((((((((((l.set (o) v0).set (o + 1) v1).set (o + 2) v2).set (o + 3) v3).set (o + 4) v4).set (o + 5) v5).set (o + 6) v6).set (o + 7) v7).set (o + 8) v8).set (o + 9) v9).set (o + 10) v10) t := (((((((((((hB.set (o) v0).set (o + 1) v1).set (o + 2) v2).set (o + 3) v3).set (o + 4) v4).set (o + 5) v5).set (o + 6) v6).set (o + 7) v7).set (o + 8) v8).set (o + 9) v9).set (o + 10) v10)
theorem list_set11 (v0 v1 v2 v3 v4 v5 v6 v7 v8 v9 v10 : Value) : ∀ (xs : List IH) (j : Nat) (y : IH), j < xs.length → IH.enc y = [v0, v1, v2, v3, v4, v5, v6, v7, v8, v9, v10] → ((((((((((((xs.flatMap IH.enc).set (j * 11) v0).set (j * 11 + 1) v1).set (j * 11 + 2) v2).set (j * 11 + 3) v3).set (j * 11 + 4) v4).set (j * 11 + 5) v5).set (j * 11 + 6) v6).set (j * 11 + 7) v7).set (j * 11 + 8) v8).set (j * 11 + 9) v9).set (j * 11 + 10) v10) = (xs.set j y).flatMap IH.enc
  | [], j, y, h, _ => absurd h (Nat.not_lt_zero _)
  | x :: r, 0, y, _, he => by
    rw [List.set_cons_zero, List.flatMap_cons, List.flatMap_cons, he]
    simp [IH.enc, It.encH]
  | x :: r, j + 1, y, h, he => by
    have ih := list_set11 v0 v1 v2 v3 v4 v5 v6 v7 v8 v9 v10 r j y (by simpa using h) he
    have e : ∀ (l : List Value) (k : Nat) (v : Value), (IH.enc x ++ l).set (j * 11 + 11 + k) v = IH.enc x ++ l.set (j * 11 + k) v := fun l k v => by
      rw [List.set_append, if_neg (by rw [IH.len]; omega), IH.len]
      congr 2
      omega
    have e0 : ∀ (l : List Value) (v : Value), (IH.enc x ++ l).set (j * 11 + 11) v = IH.enc x ++ l.set (j * 11) v := fun l v => e l 0 v
    simp only [List.flatMap_cons, List.set_cons_succ, show (j + 1) * 11 = j * 11 + 11 by omega, e, e0]
    rw [ih]
/-- One item is written. -/
theorem OwnI.setAt {lo g n c j : Nat} {w : World} {xs : List IH} (h : OwnI lo w (.slice (some ⟨g, 0, none⟩) n c) xs) (hj : j < xs.length) (y : IH) (v0 v1 v2 v3 v4 v5 v6 v7 v8 v9 v10 : Value) (he : IH.enc y = [v0, v1, v2, v3, v4, v5, v6, v7, v8, v9, v10]) : OwnI lo (set11 w g (j * 11) v0 v1 v2 v3 v4 v5 v6 v7 v8 v9 v10) (.slice (some ⟨g, 0, none⟩) n c) (xs.set j y) := by
  obtain ⟨h1, h2⟩ := h
  rcases h2 with ⟨ee, hn⟩ | ⟨g', cap, cur, ee, hb, hg, hnc, hcm, hcs, htake⟩
  · cases ee
  · injection ee with e1 e2 e3
    injection e1 with e1
    injection e1 with e1
    subst e1 e2 e3
    have hB : Blk w g cur.toList 66 := by unfold Blk; simpa using hg
    have hB2 := Blk.set11 hB (j * 11) v0 v1 v2 v3 v4 v5 v6 v7 v8 v9 v10
    refine ⟨by rw [flatMap_len IH.len], .inr ⟨g, c, ((((((((((((cur.toList.set (j * 11) v0).set (j * 11 + 1) v1).set (j * 11 + 2) v2).set (j * 11 + 3) v3).set (j * 11 + 4) v4).set (j * 11 + 5) v5).set (j * 11 + 6) v6).set (j * 11 + 7) v7).set (j * 11 + 8) v8).set (j * 11 + 9) v9).set (j * 11 + 10) v10)).toArray, by simp, hb, hB2, by simpa using hnc, hcm, by simpa using hcs, ?_⟩⟩
    rw [List.length_set, List.toList_toArray]
    simp only [List.take_set]
    rw [htake]
    exact list_set11 v0 v1 v2 v3 v4 v5 v6 v7 v8 v9 v10 xs j y hj he
theorem OwnI.setOut {lo g n c : Nat} {xs : List IH} (us : List Value) : ∀ (w : World) (j : Nat), OwnI lo w (.slice (some ⟨g, 0, none⟩) n c) xs → xs.length * 11 ≤ j → OwnI lo (w.setCells g j us) (.slice (some ⟨g, 0, none⟩) n c) xs := by
  induction us with
  | nil => intro w j h _; exact h
  | cons u r ih =>
    intro w j h hj
    refine ih _ (j + 1) ?_ (by omega)
    obtain ⟨h1, h2⟩ := h
    rcases h2 with ⟨ee, hn⟩ | ⟨g', cap, cur, ee, hb, hg, hnc, hcm, hcs, htake⟩
    · cases ee
    · injection ee with e1 e2 e3
      injection e1 with e1
      injection e1 with e1
      subst e1 e2 e3
      have hB : Blk w g cur.toList 66 := by unfold Blk; simpa using hg
      have hB2 := hB.set j u
      refine ⟨h1, .inr ⟨g, c, (cur.toList.set j u).toArray, rfl, hb, hB2, hnc, hcm, by simpa using hcs, ?_⟩⟩
      rw [List.toList_toArray, List.take_set_of_le (by omega), htake]
theorem OwnI.cut {lo g n c k : Nat} {w : World} {xs : List IH} (h : OwnI lo w (.slice (some ⟨g, 0, none⟩) n c) xs) (hk : k ≤ xs.length) : OwnI lo w (.slice (some ⟨g, 0, none⟩) k c) (xs.take k) := by
  obtain ⟨h1, h2⟩ := h
  have hl : (xs.take k).length = k := by rw [List.length_take]; omega
  rcases h2 with ⟨ee, hn⟩ | ⟨g', cap, cur, ee, hb, hg, hnc, hcm, hcs, htake⟩
  · cases ee
  · injection ee with e1 e2 e3
    injection e1 with e1
    injection e1 with e1
    subst e1 e2 e3
    refine ⟨by rw [flatMap_len IH.len], .inr ⟨g, c, cur, by rw [hl], hb, hg, by omega, hcm, hcs, ?_⟩⟩
    rw [hl]
    have e : (xs.flatMap IH.enc).take (k * 11) = (xs.take k).flatMap IH.enc := by
      have hx : xs = xs.take k ++ xs.drop k := (List.take_append_drop k xs).symm
      have hf : xs.flatMap IH.enc = (xs.take k).flatMap IH.enc ++ (xs.drop k).flatMap IH.enc := (congrArg (List.flatMap IH.enc) hx).trans (by rw [List.flatMap_append])
      rw [hf, List.take_append_of_le_length (by rw [flatMap_len IH.len, hl]; exact Nat.le_refl _), List.take_of_length_le (by rw [flatMap_len IH.len, hl]; exact Nat.le_refl _)]
    rw [← e, ← htake, List.take_take, Nat.min_eq_left (Nat.mul_le_mul_right 11 hk)]
theorem only_setCells (g : Nat) (us : List Value) : ∀ (w : World) (j : Nat), Only (fun z => z = g) w (w.setCells g j us) := by
  induction us with
  | nil => intro w j; exact Only.refl _ _
  | cons u r ih => intro w j; exact (Only.setCell (A := fun z => z = g) w (p := ⟨g, j, none⟩) rfl u).trans (ih _ _)
theorem run_clearI (w : World) (ty : TypeId) (b o n c : Nat) (hn : 0 < n) (hc : ∀ j, j < n * 11 → (w.cell? ⟨b, o + j, none⟩).isSome = true) (hf : ∀ j, w.frozen? ⟨b, o + j, none⟩ = false) :
    ∃ us : List Value, (Builtin.clear_ #[24] ty #[.slice (some ⟨b, o, none⟩) n c]).run Try.prog w = .ok (.tuple #[]) (w.setCells b o us) := by
  obtain ⟨z, hz⟩ : ∃ z : Value, z = .agg #[.bool false, .string ⟨#[]⟩, .bool false, .int .i64 0, .bool false, .int .i64 0, .int .i64 0, .string ⟨#[]⟩, .bool false, .slice none 0 0, .int .i64 0] := ⟨_, rfl⟩
  have hv : ∀ w, (zeroValue 66).run Try.prog w = .ok z w := fun w => by rw [hz]; kernel_rfl
  have hst := run_storeCells_cells (P := Try.prog) b o (Builtin.zeroCells z.cells n).toList 0 w (by
    rw [hz]
    simpa [Builtin.zeroCells, Value.cells] using hc) (fun j _ => by rw [Nat.add_zero]; exact hf j) (by
    rw [hz]
    intro v hv'
    simp only [Builtin.zeroCells, Value.cells, Array.toList_map, List.mem_map] at hv'
    obtain ⟨i, -, rfl⟩ := hv'
    have h3 : i % 11 < 11 := Nat.mod_lt _ (by omega)
    have e3 : (#[Value.bool false, .string ⟨#[]⟩, .bool false, .int .i64 0, .bool false, .int .i64 0, .int .i64 0, .string ⟨#[]⟩, .bool false, .slice none 0 0, .int .i64 0] : Array Value).size = 11 := rfl
    rw [e3]
    rcases (show i % 11 = 0 ∨ i % 11 = 1 ∨ i % 11 = 2 ∨ i % 11 = 3 ∨ i % 11 = 4 ∨ i % 11 = 5 ∨ i % 11 = 6 ∨ i % 11 = 7 ∨ i % 11 = 8 ∨ i % 11 = 9 ∨ i % 11 = 10 by omega) with h | h | h | h | h | h | h | h | h | h | h <;> rw [h] <;> rfl)
  simp only [Nat.add_zero] at hst
  obtain ⟨m, rfl⟩ : ∃ m, n = m + 1 := ⟨n - 1, by omega⟩
  refine ⟨(Builtin.zeroCells z.cells (m + 1)).toList, ?_⟩
  simp [Builtin.clear_, run_underlying Try.underlying24, hv, hst]
set_option maxRecDepth 100000 in
theorem run_fromI (g n c k : Nat) (hk : k < n) (hn : n ≤ c) (hc : c ≤ 9223372036854775807) (w' : World) : (Instr.slice 24 (.slice (some ⟨g, 0, none⟩) n c) (some (.int .i64 (k : Int))) none none).run Try.prog w' = .ok (.slice (some ⟨g, k * 11, none⟩) (n - k) (c - k)) w' := by
  rw [run_slice_l w' 24 _ n c Try.underlying24 .i64 (k : Int) (by omega) (by omega)]
  have hsz : ∀ w, (sizeOf (Try.prog.elem 24)).run Try.prog w = .ok 11 w := fun w => by kernel_rfl
  simp only [hsz, Result.andThen, Int.toNat_natCast, sliced]
  rw [if_neg (by omega)]
  simp [Addr.add] <;> omega
set_option maxRecDepth 100000 in
theorem run_toI (g n c k : Nat) (hk : k ≤ n) (hn : n ≤ c) (hc : c ≤ 9223372036854775807) (w' : World) : (Instr.slice 24 (.slice (some ⟨g, 0, none⟩) n c) none (some (.int .i64 (k : Int))) none).run Try.prog w' = .ok (.slice (some ⟨g, 0, none⟩) k c) w' := by
  rw [run_slice_h w' 24 _ n c Try.underlying24 .i64 (k : Int) (by omega) (by omega)]
  have hsz : ∀ w, (sizeOf (Try.prog.elem 24)).run Try.prog w = .ok 11 w := fun w => by kernel_rfl
  simp only [hsz, Result.andThen, Int.toNat_natCast, sliced]
  split <;> simp [Addr.add]
/-- slices.DeleteFunc of items of a call's own. -/
theorem IHs.flat {lo hi : Nat} {w : World} {v : Value} {ps : List IH} (h : IHs lo hi w v ps) : ItsF lo hi w v (ps.map (·.1)) :=
  Sl.ofPairs h (fun p _ => ⟨p.2.1, p.2.2, rfl⟩)
set_option maxRecDepth 100000 in
set_option maxHeartbeats 16000000 in
theorem DeleteFunc_it (lo : Nat) (ps : List IH) (v : Value) (f : FuncId) (p : It → Bool) (w : World) (hv : OwnI lo w v ps) (hlen : ps.length ≤ 1000000)
    (he : ∀ args w, (callFunc f args).run Try.prog w = .ok (.enter f args) w)
    (hp : ∀ a sp sc w' R, (∀ w'', Below w'.heap.size w' w'' → R (.returned (.bool (p a))) w'') → Calls Try.prog f #[.agg #[.bool a.wild, .string ⟨a.attr.toArray⟩, .bool a.back, .int .i64 a.limit, .bool a.has, .int .i64 a.dflt.kind, .int .i64 a.dflt.n, .string ⟨a.dflt.s.toArray⟩, .bool a.nested, .slice sp a.sub.length sc, .int .i64 a.rc]] w' R)
    (R : Ending → World → Prop) (hR : ∀ w' v', Only (fun z => v.ownBlock = some z) w w' → OwnI lo w' v' (ps.filter (fun y => !p y.1)) → R (.returned v') w') :
    Calls Try.prog 41 #[v, .func (.func f) #[] #[]] w R := by
  have HR := Lib.hid hR
  have Hp := Lib.hid hp
  have Hv := Lib.hid hv
  have He := Lib.hid he
  have hv2 := hv
  obtain ⟨p0, c0, rfl⟩ := Own.slice hv
  clear hR hp hv
  go_enter Try.func41, Try.ntmps41
  go_wp2_with fail
  refine IndexFunc_it lo w.heap.size _ (ps.map (·.1)) f #[] p w (IHs.flat (Sl.ofOwn IH.len Hv.out)) (Nat.le_refl _) He.out (fun a sp sc w' R' hb hR' => Hp.out a sp sc w' R' hR') _ (fun o w1 ho hB1 => ?_)
  have Ho := Lib.hid ho
  have HB1 := Lib.hid hB1
  have Hv1 := Lib.hid (Own.kept Hv.out hB1)
  clear ho hB1 hv2
  cases o with
  | none =>
    have hall : ps.filter (fun y => !p y.1) = ps := by
      rw [List.filter_eq_self]
      intro y hy
      have := List.findIdx?_eq_none_iff.1 Ho.out.symm y.1 (List.mem_map.2 ⟨y, hy, rfl⟩)
      simp [this]
    have hr := HR.out w1 _ (Below.only HB1.out) (by rw [hall]; exact Hv1.out)
    clear hall
    simp only [oidx]
    go_wp2_with fail
    first | exact hr | exact fin hr rfl
  | some i0 =>
    obtain ⟨hi0, hpi, hno⟩ := List.findIdx?_eq_some_iff_getElem.1 Ho.out.symm
    rw [List.length_map] at hi0
    have hfil : (ps.take (i0 + 1)).filter (fun y => !p y.1) = ps.take i0 := by
      rw [List.take_succ_eq_append_getElem hi0, List.filter_append, List.filter_cons_of_neg (by simpa using hpi), List.filter_nil, List.append_nil, List.filter_eq_self]
      intro y hy
      obtain ⟨j, hj, rfl⟩ := List.getElem_of_mem hy
      rw [List.length_take] at hj
      have := hno j (by omega)
      simp only [List.getElem_map] at this
      rw [List.getElem_take]
      simpa using this
    have Hfil := Lib.hid hfil
    obtain ⟨n, hn⟩ : ∃ n, n = ps.length := ⟨_, rfl⟩
    obtain ⟨g, cap, e1, hg1, hg2, hnc, hcm, -, -⟩ := Own.form Hv1.out (List.ne_nil_of_length_pos (by omega))
    injection e1 with e1 e2 e3
    subst e1 e3
    rw [← hn] at hlen hnc hi0 ⊢
    have Hn := Lib.hid hn
    have Hv2 : Hid (OwnI lo w1 (.slice (some ⟨g, 0, none⟩) n c0) ps) := Lib.hid (by rw [hn]; exact Hv1.out)
    simp only [oidx]
    have hw1 : IntKind.i64.wrap ((i0 : Int) + 1) = (i0 : Int) + 1 := wrapIn (by omega) (by omega)
    have hi00 : (0 : Int) ≤ (i0 : Int) := by omega
    have hm1 : ((i0 : Int) == -1) = false := by simp
    have hrf := fun k (hk : k < n) => run_fromI g n c0 k hk hnc hcm
    have hrt := fun k (hk : k ≤ n) => run_toI g n c0 k hk hnc hcm
    have Hrf := Lib.hid hrf
    have Hrt := Lib.hid hrt
    clear hpi hno hfil hn e2 Hv1 hrf hrt Ho
    go_wp2_with fail
    go_loopw [5, 6] (fun t5 t6 wr => ∃ (i j : Nat) (L : List IH), t5 = .int .i64 i ∧ t6 = .int .i64 j ∧ i < j ∧ j ≤ n ∧ i ≤ n ∧ L.length = n ∧ Hid (L.take i = (ps.take j).filter (fun y => !p y.1)) ∧ Hid (L.drop j = ps.drop j) ∧ OwnI lo wr (.slice (some ⟨g, 0, none⟩) n c0) L ∧ Only (· = g) w1 wr) (fun _ t6 _ => n - (intOf t6).toNat)
    case atStart => exact ⟨i0, i0 + 1, ps, rfl, by go_num, by omega, by omega, by omega, Hn.out.symm, Lib.hid (by rw [Hfil.out]), Lib.hid rfl, Hv2.out, Only.refl _ _⟩
    case round =>
      obtain ⟨i, j, L, rfl, rfl, hij, hjn, hin, hL, Htk, Hdr, ho, hO⟩ := hrel
      obtain ⟨wo, ewo⟩ : ∃ x, x = wr := ⟨_, rfl⟩
      subst ewo
      have Ho := Lib.hid ho
      have HO := Lib.hid hO
      have HL := Lib.hid hL
      have hz := hO.size
      have ii0 : (0 : Int) ≤ (i : Int) := by omega
      have jj0 : (0 : Int) ≤ (j : Int) := by omega
      clear ho hO hL
      by_cases hlt : j < n
      · have jjl : (j : Int) < (n : Int) := by omega
        have iil : (i : Int) < (n : Int) := by omega
        have hjL : j < L.length := by have := HL.out; omega
        have hjp : j < ps.length := by have := Hn.out; omega
        obtain ⟨ao', cap', e', -, -, -, hc⟩ := (Sl.ofOwn IH.len Ho.out).form
        injection e' with e1 e2 e3
        subst e1 e3
        obtain ⟨b', o', e7, -, -, hcc⟩ := hc j hjL
        injection e7 with e7
        injection e7 with e7 e8
        subst e7 e8
        obtain ⟨cs, -, hcs, e9⟩ := hcc j hjL
        have e10 : cs = IH.enc L[j] := e9
        have hLj : L[j] = ps[j] := by
          have h1 := List.drop_eq_getElem_cons hjL
          have h2 := List.drop_eq_getElem_cons hjp
          rw [Hdr.out, h2] at h1
          injection h1 with h1
          exact h1.symm
        rw [e10, hLj] at hcs
        have Hfs : Hid ((ps.take (j + 1)).filter (fun y => !p y.1) = (ps.take j).filter (fun y => !p y.1) ++ (if p ps[j].1 then [] else [ps[j]])) := Lib.hid (by
          rw [List.take_succ_eq_append_getElem hjp, List.filter_append]
          congr 1
          cases hpp : p ps[j].1 <;> simp [List.filter_cons, hpp])
        have Hd1 : Hid (L.drop (j + 1) = ps.drop (j + 1)) := Lib.hid (by
          have := congrArg (List.drop 1) Hdr.out
          rwa [List.drop_drop, List.drop_drop] at this)
        have hfr : ∀ k, wo.frozen? ⟨g, k, none⟩ = false := by
          obtain ⟨g2, c2', e4, -, -, -, -, -, h6⟩ := Own.form Ho.out (List.ne_nil_of_length_pos (by omega))
          injection e4 with e4 _ _
          injection e4 with e4
          injection e4 with e4
          subst e4
          exact h6
        have hgw : g < wo.heap.size := by omega
        clear hc hcc e9 e10 hLj e2
        obtain ⟨yy, hyy⟩ : ∃ yy, yy = ps[j] := ⟨_, rfl⟩
        rw [← hyy] at hcs Hfs
        clear hyy
        obtain ⟨y, yp, yc⟩ := yy
        simp only at Hfs
        have hcs2 : CellsAt wo g (j * 11) [.bool y.wild, .string ⟨y.attr.toArray⟩, .bool y.back, .int .i64 y.limit, .bool y.has, .int .i64 y.dflt.kind, .int .i64 y.dflt.n, .string ⟨y.dflt.s.toArray⟩, .bool y.nested, .slice yp y.sub.length yc, .int .i64 y.rc] := by have h := hcs; rw [Nat.zero_add] at h; exact h
        obtain ⟨y0, y1, y2, y3, y4, y5, y6, y7, y8, y9, y10⟩ := item_cells hcs2
        have hB5 := alloc_below wo (.cells #[.bool y.wild, .string ⟨y.attr.toArray⟩, .bool y.back, .int .i64 y.limit, .bool y.has, .int .i64 y.dflt.kind, .int .i64 y.dflt.n, .string ⟨y.dflt.s.toArray⟩, .bool y.nested, .slice yp y.sub.length yc, .int .i64 y.rc] 66)
        have hb5 := Blk.new wo [.bool y.wild, .string ⟨y.attr.toArray⟩, .bool y.back, .int .i64 y.limit, .bool y.has, .int .i64 y.dflt.kind, .int .i64 y.dflt.n, .string ⟨y.dflt.s.toArray⟩, .bool y.nested, .slice yp y.sub.length yc, .int .i64 y.rc] 66 rfl
        clear hcs hcs2 cs
        go_upto_region 8 with fail
        generalize wo.alloc (.cells #[.bool y.wild, .string ⟨y.attr.toArray⟩, .bool y.back, .int .i64 y.limit, .bool y.has, .int .i64 y.dflt.kind, .int .i64 y.dflt.n, .string ⟨y.dflt.s.toArray⟩, .bool y.nested, .slice yp y.sub.length yc, .int .i64 y.rc] 66) = w5 at *
        obtain ⟨b5, eb5⟩ : ∃ b, b = wo.heap.size := ⟨_, rfl⟩
        rw [← eb5] at hb5 ⊢
        have h5ge : wo.heap.size ≤ b5 := Nat.le_of_eq eb5.symm
        have Hb5 := Lib.hid hb5
        have HB5 := Lib.hid hB5
        clear y0 y1 y2 y3 y4 y5 y6 y7 y8 y9 y10 eb5
        obtain ⟨y0, y1, y2, y3, y4, y5, y6, y7, y8, y9, y10⟩ := item_cells hb5.cells
        simp only [Nat.zero_add] at y1 y2 y3 y4 y5 y6 y7 y8 y9 y10
        have hz5 := hB5.size
        have he2 := He.out
        clear hb5 hB5
        go_wp2_with fail
        refine Hp.out y yp yc w5 _ (fun w6 hB6 => ?_)
        have hB66 := HB5.out.trans (hB6.mono hz5)
        have HB66 := Lib.hid hB66
        have hz6 := hB66.size
        have Hb6 := Lib.hid (Hb5.out.below hB6 Hb5.out.lt)
        have Ho6 := Lib.hid (Own.kept Ho.out hB66)
        have HO6 := Lib.hid (HO.out.trans (Below.only hB66))
        clear hB6 hB66 y0 y1 y2 y3 y4 y5 y6 y7 y8 y9 y10 he2
        cases hpy : p y with
        | true =>
          have Hf2 : Hid (L.take i = (ps.take (j + 1)).filter (fun y => !p y.1)) := Lib.hid (by rw [Hfs.out, hpy, if_pos rfl, List.append_nil]; exact Htk.out)
          clear hpy hfr
          go_wp2_with fail
          go_roundw
          case rel => exact ⟨i, j + 1, L, rfl, by go_num, by omega, by omega, hin, HL.out, Hf2, Hd1, Ho6.out, HO6.out⟩
          case measure => simp [intOf]; omega
        | false =>
          have hwi : IntKind.i64.wrap ((i : Int) + 1) = (i : Int) + 1 := wrapIn (by omega) (by omega)
          obtain ⟨y0, y1, y2, y3, y4, y5, y6, y7, y8, y9, y10⟩ := item_cells Hb6.out.cells
          simp only [Nat.zero_add] at y1 y2 y3 y4 y5 y6 y7 y8 y9 y10
          have hiL : i < L.length := by have := HL.out; omega
          obtain ⟨ao', cap', e', -, -, -, hc⟩ := (Sl.ofOwn IH.len Ho6.out).form
          injection e' with e1 e2 e3
          subst e1 e3
          obtain ⟨b2, o2, e7, -, -, hcc⟩ := hc i hiL
          injection e7 with e7
          injection e7 with e7 e8
          subst e7 e8
          obtain ⟨cs, -, hcs, e9⟩ := hcc i hiL
          have e10 : cs = IH.enc L[i] := e9
          rw [e10, Nat.zero_add] at hcs
          generalize L[i] = q at *
          obtain ⟨q, qp, qc⟩ := q
          have hcs2 : CellsAt w6 g (i * 11) [.bool q.wild, .string ⟨q.attr.toArray⟩, .bool q.back, .int .i64 q.limit, .bool q.has, .int .i64 q.dflt.kind, .int .i64 q.dflt.n, .string ⟨q.dflt.s.toArray⟩, .bool q.nested, .slice qp q.sub.length qc, .int .i64 q.rc] := hcs
          obtain ⟨q0, q1, q2, q3, q4, q5, q6, q7, q8, q9, q10⟩ := item_cells hcs2
          have hfr6 : ∀ k, w6.frozen? ⟨g, k, none⟩ = false := by
            obtain ⟨g2, c2', e4, -, -, -, -, -, h6⟩ := Own.form Ho6.out (List.ne_nil_of_length_pos (by omega))
            injection e4 with e4 _ _
            injection e4 with e4
            injection e4 with e4
            subst e4
            exact h6
          have f0 := hfr6 (i * 11)
          have f1 := hfr6 (i * 11 + 1)
          have f2 := hfr6 (i * 11 + 2)
          have f3 := hfr6 (i * 11 + 3)
          have f4 := hfr6 (i * 11 + 4)
          have f5 := hfr6 (i * 11 + 5)
          have f6 := hfr6 (i * 11 + 6)
          have f7 := hfr6 (i * 11 + 7)
          have f8 := hfr6 (i * 11 + 8)
          have f9 := hfr6 (i * 11 + 9)
          have f10 := hfr6 (i * 11 + 10)
          have hg6 : g < w6.heap.size := by omega
          have hset := OwnI.setAt Ho6.out hiL (y, yp, yc) (.bool y.wild) (.string ⟨y.attr.toArray⟩) (.bool y.back) (.int .i64 y.limit) (.bool y.has) (.int .i64 y.dflt.kind) (.int .i64 y.dflt.n) (.string ⟨y.dflt.s.toArray⟩) (.bool y.nested) (.slice yp y.sub.length yc) (.int .i64 y.rc) rfl
          have hon := (HO6.out.trans (only_set11 w6 g (i * 11) (.bool y.wild) (.string ⟨y.attr.toArray⟩) (.bool y.back) (.int .i64 y.limit) (.bool y.has) (.int .i64 y.dflt.kind) (.int .i64 y.dflt.n) (.string ⟨y.dflt.s.toArray⟩) (.bool y.nested) (.slice yp y.sub.length yc) (.int .i64 y.rc)))
          have Hf2 : Hid ((L.set i (y, yp, yc)).take (i + 1) = (ps.take (j + 1)).filter (fun y => !p y.1)) := Lib.hid (by
            rw [Hfs.out, hpy, if_neg (by decide), ← Htk.out, List.take_succ_eq_append_getElem (by rw [List.length_set]; exact hiL), List.getElem_set_self, List.take_set_of_le (Nat.le_refl _)])
          have Hd2 : Hid ((L.set i (y, yp, yc)).drop (j + 1) = ps.drop (j + 1)) := Lib.hid (by
            rw [List.drop_set_of_lt (by omega)]; exact Hd1.out)
          unfold set11 at hset hon
          have Hset := Lib.hid hset
          have Hon := Lib.hid hon
          clear hpy hfr hfr6 hc hcc hcs hcs2 e9 e10 hset hon cs e2
          go_wp2_with fail
          go_roundw
          case rel => exact ⟨i + 1, j + 1, L.set i (y, yp, yc), by go_num, by go_num, by omega, by omega, by omega, by rw [List.length_set]; exact HL.out, Hf2, Hd2, Hset.out, Hon.out⟩
          case measure => simp [intOf]; omega
      · have hje : j = n := by omega
        have jjl : ¬ (j : Int) < (n : Int) := by omega
        have hik : i < n := by omega
        have iil : (i : Int) < (n : Int) := by omega
        have hcut := OwnI.cut Ho.out (k := i) (by rw [HL.out]; omega)
        obtain ⟨g', c', hv', -, hgw, -, -, hcells, hfr⟩ := Own.form Ho.out (by intro e; have := HL.out; rw [e] at this; simp at this; omega)
        injection hv' with e1 e2 e3
        injection e1 with e1
        injection e1 with e1
        subst e1 e3
        clear e2
        obtain ⟨us, hcl⟩ := run_clearI wo 3 g (i * 11) (n - i) (c0 - i) (by omega) (fun k hk => by
          have hb3 : i * 11 + k < (L.flatMap IH.enc).length := by rw [flatMap_len IH.len, HL.out]; omega
          have := hcells (i * 11 + k) _ (List.getElem?_eq_getElem hb3)
          rw [Nat.zero_add] at this
          rw [this]; rfl) (fun k => hfr _)
        have hcl2 : ∀ ty, (Builtin.clear_ #[24] ty #[.slice (some ⟨g, i * 11, none⟩) (n - i) (c0 - i)]).run Try.prog wo = .ok (.tuple #[]) (wo.setCells g (i * 11) us) := fun ty => hcl
        have hrf := Hrf.out i hik
        have hrt := Hrt.out i hin
        have hown := OwnI.setOut us wo (i * 11) hcut (by rw [List.length_take, HL.out]; omega)
        rw [Htk.out, hje, List.take_of_length_le (by rw [Hn.out]; exact Nat.le_refl _)] at hown
        have hr := HR.out (wo.setCells g (i * 11) us) (.slice (some ⟨g, 0, none⟩) i c0) ((Below.only HB1.out).trans ((HO.out.trans (only_setCells g us wo (i * 11))).mono (fun z _ hz => by have : z = g := hz; rw [this]; rfl))) hown
        have Hr := Lib.hid hr
        clear hcells hfr hcut hown hcl hr hje hjn hij
        go_wp2_with fail
        first | exact Hr.out | exact fin Hr.out rfl
end Go.Proofs.Yticbhfmpnmolcaa
end

/- pull's items: those of a list, with what a wild one stands for. (Printed by pulaa.py.) -/
section
set_option linter.unusedVariables false
set_option linter.unusedSimpArgs false
namespace Go.Proofs.Yticbhfmpnmolcaa
open Go.RowKit
set_option linter.unusedVariables false
set_option linter.unusedSimpArgs false
set_option maxRecDepth 100000 in
set_option maxHeartbeats 4000000 in
/-- slices.IndexFunc over facts, whatever is asked of each. -/
theorem IndexFunc_ft (lo hi : Nat) (v : Value) (xs : List Ft) (f : FuncId) (capt : Array Value) (p : Ft → Bool) (w : World) (hv : Fts lo hi w v xs) (hhi : hi ≤ w.heap.size)
    (he : ∀ args w, (callFunc f args).run Try.prog w = .ok (.enter f args) w)
    (hp : ∀ a sp sc w' R, Below w.heap.size w w' → (∀ w'', Below w'.heap.size w' w'' → R (.returned (.bool (p a))) w'') →
      Calls Try.prog f (#[.agg #[.int .i64 a.e, .int .i64 a.a, .int .i64 a.v.kind, .int .i64 a.v.n, .string ⟨a.v.s.toArray⟩, .slice sp a.sp.length sc]] ++ capt) w' R)
    (R : Ending → World → Prop) (hR : ∀ o w', o = xs.findIdx? p → Below w.heap.size w w' → R (.returned (.int .i64 (oidx o))) w') :
    Calls Try.prog 70 #[v, .func (.func f) #[] capt] w R := by
  obtain ⟨ao, cap, rfl, hl1, hl2, _, hc⟩ := hv.form
  go_enter Try.func70, Try.ntmps70
  go_wp2
  go_loopw [5, 8] (fun t5 t8 wr => ∃ k : Nat, k ≤ xs.length ∧ t8 = .int .i64 k ∧ (∀ i (h : i < k) (h' : i < xs.length), p xs[i] = false) ∧ Below w.heap.size w wr) (fun _ t8 _ => xs.length - (intOf t8).toNat)
  case atStart => exact ⟨0, Nat.zero_le _, rfl, by intro i h; omega, Below.refl _ _⟩
  case round =>
    obtain ⟨k, hk, rfl, hno, hB⟩ := hrel
    have Hno := Lib.hid hno
    have Hp := Lib.hid hp
    have Hc := Lib.hid hc
    clear hno hp hc
    by_cases hlt : k < xs.length
    · obtain ⟨b, off, rfl, hb1, hb2, hcc⟩ := Hc.out k hlt
      obtain ⟨cs, _, hcs, sv, rfl, hsv⟩ := hcc k hlt
      obtain ⟨sp, sc, rfl, -, -, -, -⟩ := hsv.form
      obtain ⟨h0, h1, h2, h3, h4, h5⟩ := (hcs.agree (.below hB hhi) hb1 hb2).f6
      clear hsv
      clear hcc hcs
      generalize hx : xs[k] = x at *
      have Hx := Lib.hid hx
      clear hx
      go_wp2_with fail
      refine Hp.out x sp sc _ _ hB ?_
      intro w1 hB1
      have hB2 := hB.trans (hB1.mono hB.size)
      cases hpx : p x
      · go_wp2
        go_roundw
        case rel =>
          refine ⟨k + 1, by omega, by go_num, ?_, hB2⟩
          intro i h h'
          by_cases e : i = k
          · subst e; rw [Hx.out]; exact hpx
          · exact Hno.out i (by omega) h'
        case measure => simp [intOf]; omega
      · go_wp2
        exact hR (some k) _ (by
          symm
          rw [List.findIdx?_eq_some_iff_getElem]
          exact ⟨hlt, by rw [Hx.out]; exact hpx, fun j hj => by simpa using Hno.out j hj (by omega)⟩) hB2
    · go_wp2
      exact hR none _ (by
        symm
        rw [List.findIdx?_eq_none_iff]
        intro x hx
        obtain ⟨i, hi, rfl⟩ := List.getElem_of_mem hx
        exact Hno.out i (by omega) hi) hB

set_option maxRecDepth 100000 in
set_option maxHeartbeats 4000000 in
/-- slices.ContainsFunc over facts. -/
theorem ContainsFunc_ft (lo hi : Nat) (v : Value) (xs : List Ft) (f : FuncId) (capt : Array Value) (p : Ft → Bool) (w : World) (hv : Fts lo hi w v xs) (hhi : hi ≤ w.heap.size)
    (he : ∀ args w, (callFunc f args).run Try.prog w = .ok (.enter f args) w)
    (hp : ∀ a sp sc w' R, Below w.heap.size w w' → (∀ w'', Below w'.heap.size w' w'' → R (.returned (.bool (p a))) w'') →
      Calls Try.prog f (#[.agg #[.int .i64 a.e, .int .i64 a.a, .int .i64 a.v.kind, .int .i64 a.v.n, .string ⟨a.v.s.toArray⟩, .slice sp a.sp.length sc]] ++ capt) w' R)
    (R : Ending → World → Prop) (hR : ∀ b w', b = xs.any p → Below w.heap.size w w' → R (.returned (.bool b)) w') :
    Calls Try.prog 44 #[v, .func (.func f) #[] capt] w R := by
  have HI := Lib.hid (IndexFunc_ft lo hi v xs f capt p w hv hhi he hp)
  obtain ⟨ao, cap, rfl, -⟩ := hv.form
  clear hp
  go_enter Try.func44, Try.ntmps44
  go_wp2_with fail
  refine HI.out _ ?_
  intro o w1 ho hB
  have Ho := Lib.hid ho
  clear ho
  cases o with
  | none =>
    simp only [oidx]
    go_wp2
    exact hR false _ (by
      have := List.findIdx?_eq_none_iff.1 Ho.out.symm
      symm
      rw [List.any_eq_false]
      simpa using this) hB
  | some i =>
    simp only [oidx]
    go_wp2
    exact hR true _ (by
      obtain ⟨h, h1, -⟩ := List.findIdx?_eq_some_iff_getElem.1 Ho.out.symm
      symm
      rw [List.any_eq_true]
      exact ⟨xs[i], List.getElem_mem h, h1⟩) hB
set_option maxRecDepth 100000 in
set_option maxHeartbeats 4000000 in
theorem items1_any (y : It) (yp : Option Addr) (yc : Nat) (w : World) (R : Ending → World → Prop) (hR : ∀ w', Below w.heap.size w w' → R (.returned (.bool y.wild)) w') :
    Calls Try.prog 43 #[.agg #[.bool y.wild, .string ⟨y.attr.toArray⟩, .bool y.back, .int .i64 y.limit, .bool y.has, .int .i64 y.dflt.kind, .int .i64 y.dflt.n, .string ⟨y.dflt.s.toArray⟩, .bool y.nested, .slice yp y.sub.length yc, .int .i64 y.rc]] w R := by
  have HR := Lib.hid hR
  have hB1 := alloc_below w (.cells #[.bool y.wild, .string ⟨y.attr.toArray⟩, .bool y.back, .int .i64 y.limit, .bool y.has, .int .i64 y.dflt.kind, .int .i64 y.dflt.n, .string ⟨y.dflt.s.toArray⟩, .bool y.nested, .slice yp y.sub.length yc, .int .i64 y.rc] 66)
  have hb1 := Blk.new w [.bool y.wild, .string ⟨y.attr.toArray⟩, .bool y.back, .int .i64 y.limit, .bool y.has, .int .i64 y.dflt.kind, .int .i64 y.dflt.n, .string ⟨y.dflt.s.toArray⟩, .bool y.nested, .slice yp y.sub.length yc, .int .i64 y.rc] 66 rfl
  clear hR
  go_enter Try.func43, Try.ntmps43
  go_upto_region 1 with fail
  generalize w.alloc (.cells #[.bool y.wild, .string ⟨y.attr.toArray⟩, .bool y.back, .int .i64 y.limit, .bool y.has, .int .i64 y.dflt.kind, .int .i64 y.dflt.n, .string ⟨y.dflt.s.toArray⟩, .bool y.nested, .slice yp y.sub.length yc, .int .i64 y.rc] 66) = w1 at *
  obtain ⟨y0, -⟩ := item_cells hb1.cells
  have hr := HR.out w1 hB1
  clear hB1 hb1
  go_wp2_with fail
  first | exact hr | exact fin hr rfl
set_option maxRecDepth 100000 in
set_option maxHeartbeats 4000000 in
theorem items2_any (f : Ft) (sp : Option Addr) (sc : Nat) (e : Int) (A : Attr) (be ba : Nat) (w : World) (hbe : Blk w be [.int .i64 e] 2) (hba : Blk w ba [.int .i64 A.id, .string ⟨A.name.toArray⟩, .int .i64 A.type, .bool A.many, .int .i64 A.unique, .bool A.part, .bool A.index] 28) (R : Ending → World → Prop) (hR : ∀ w', Below w.heap.size w w' → R (.returned (.bool (f.e == e && f.a == A.id))) w') :
    Calls Try.prog 45 #[.agg #[.int .i64 f.e, .int .i64 f.a, .int .i64 f.v.kind, .int .i64 f.v.n, .string ⟨f.v.s.toArray⟩, .slice sp f.sp.length sc], .pointer (some ⟨be, 0, none⟩), .pointer (some ⟨ba, 0, none⟩)] w R := by
  have HR := Lib.hid hR
  have hB1 := alloc_below w (.cells #[.int .i64 f.e, .int .i64 f.a, .int .i64 f.v.kind, .int .i64 f.v.n, .string ⟨f.v.s.toArray⟩, .slice sp f.sp.length sc] 42)
  have hb1 := Blk.new w [.int .i64 f.e, .int .i64 f.a, .int .i64 f.v.kind, .int .i64 f.v.n, .string ⟨f.v.s.toArray⟩, .slice sp f.sp.length sc] 42 rfl
  have hbe1 := hbe.below hB1 hbe.lt
  have hba1 := hba.below hB1 hba.lt
  clear hR hbe hba
  go_enter Try.func45, Try.ntmps45
  go_upto_region 1 with fail
  generalize w.alloc (.cells #[.int .i64 f.e, .int .i64 f.a, .int .i64 f.v.kind, .int .i64 f.v.n, .string ⟨f.v.s.toArray⟩, .slice sp f.sp.length sc] 42) = w1 at *
  obtain ⟨y0, y1, -⟩ := hb1.cells.f6
  simp only [Nat.zero_add] at y1
  have e0 := hbe1.cells.c1
  obtain ⟨a0, -⟩ := hba1.cells.c7
  have hr := HR.out w1 hB1
  clear hB1 hb1 hbe1 hba1
  by_cases h1 : f.e = e
  · have h2 : (f.e == e) = true := by simpa using h1
    rw [h2, Bool.true_and] at hr
    clear h1
    go_wp2_with fail
    first | exact hr | exact fin hr rfl
  · have h2 : (f.e == e) = false := by simpa using h1
    rw [h2, Bool.false_and] at hr
    clear h1
    go_wp2_with fail
    first | exact hr | exact fin hr rfl
set_option maxRecDepth 100000 in
set_option maxHeartbeats 4000000 in
theorem items3_any (y : It) (yp : Option Addr) (yc : Nat) (A : Attr) (ba : Nat) (w : World) (hba : Blk w ba [.int .i64 A.id, .string ⟨A.name.toArray⟩, .int .i64 A.type, .bool A.many, .int .i64 A.unique, .bool A.part, .bool A.index] 28) (R : Ending → World → Prop) (hR : ∀ w', Below w.heap.size w w' → R (.returned (.bool (!y.wild && y.attr == A.name && !y.back))) w') :
    Calls Try.prog 46 #[.agg #[.bool y.wild, .string ⟨y.attr.toArray⟩, .bool y.back, .int .i64 y.limit, .bool y.has, .int .i64 y.dflt.kind, .int .i64 y.dflt.n, .string ⟨y.dflt.s.toArray⟩, .bool y.nested, .slice yp y.sub.length yc, .int .i64 y.rc], .pointer (some ⟨ba, 0, none⟩)] w R := by
  have HR := Lib.hid hR
  have hB1 := alloc_below w (.cells #[.bool y.wild, .string ⟨y.attr.toArray⟩, .bool y.back, .int .i64 y.limit, .bool y.has, .int .i64 y.dflt.kind, .int .i64 y.dflt.n, .string ⟨y.dflt.s.toArray⟩, .bool y.nested, .slice yp y.sub.length yc, .int .i64 y.rc] 66)
  have hb1 := Blk.new w [.bool y.wild, .string ⟨y.attr.toArray⟩, .bool y.back, .int .i64 y.limit, .bool y.has, .int .i64 y.dflt.kind, .int .i64 y.dflt.n, .string ⟨y.dflt.s.toArray⟩, .bool y.nested, .slice yp y.sub.length yc, .int .i64 y.rc] 66 rfl
  have hba1 := hba.below hB1 hba.lt
  clear hR hba
  go_enter Try.func46, Try.ntmps46
  go_upto_region 1 with fail
  generalize w.alloc (.cells #[.bool y.wild, .string ⟨y.attr.toArray⟩, .bool y.back, .int .i64 y.limit, .bool y.has, .int .i64 y.dflt.kind, .int .i64 y.dflt.n, .string ⟨y.dflt.s.toArray⟩, .bool y.nested, .slice yp y.sub.length yc, .int .i64 y.rc] 66) = w1 at *
  obtain ⟨y0, y1, y2, -⟩ := item_cells hb1.cells
  simp only [Nat.zero_add] at y1 y2
  obtain ⟨a0, a1, -⟩ := hba1.cells.c7
  simp only [Nat.zero_add] at a1
  have hr := HR.out w1 hB1
  clear hB1 hb1 hba1 a0
  obtain ⟨yw, hyw⟩ : ∃ yw, yw = y.wild := ⟨_, rfl⟩
  obtain ⟨yb, hyb⟩ : ∃ yb, yb = y.back := ⟨_, rfl⟩
  rw [← hyw] at y0 hr
  rw [← hyb] at y2 hr
  clear hyw hyb
  cases yw with
  | true =>
    go_wp2_with fail
    first | exact hr | exact fin hr rfl | exact fin hr (by simp)
  | false =>
    by_cases h1 : y.attr = A.name
    · have h2 : (y.attr == A.name) = true := by simpa using h1
      rw [h2] at hr
      clear h1
      cases yb with
      | true =>
        go_wp2_with fail
        first | exact hr | exact fin hr rfl | exact fin hr (by simp)
      | false =>
        go_wp2_with fail
        first | exact hr | exact fin hr rfl | exact fin hr (by simp)
    · have h2 : (y.attr == A.name) = false := by simpa using h1
      rw [h2] at hr
      clear h1
      go_wp2_with fail
      first | exact hr | exact fin hr rfl | exact fin hr (by simp)
/-- What items tells. -/
def ItemsAt (ps : List IH) (ats : List Attr) (qs : List IH) : Prop := ∀ q ∈ qs, (q ∈ ps ∧ q.1.wild = false) ∨ ∃ a ∈ ats, q = ((ofAttr a, (none, 0)) : IH)
set_option maxRecDepth 100000 in
set_option maxHeartbeats 16000000 in
theorem items_any (B M hA D lo hi : Nat) (lv av : Value) (fs : List Ft) (ats : List Attr) (n e : Int) (ps : List IH) (v : Value) (w : World)
    (hP : PulX B M hA w lv av fs ats n) (hp : Pat B D lo hi w v ps) (hats : ats.length ≤ 50) (R : Ending → World → Prop)
    (hR : ∀ w' v' qs, Below w.heap.size w w' → OwnI w.heap.size w' v' qs → qs.map (·.1) = itemsP fs ats e (ps.map (·.1)) → ItemsAt ps ats qs → R (.returned v') w') :
    Calls Try.prog 23 #[.pointer (some ⟨B, 0, none⟩), .int .i64 e, v] w R := by
  have HR := Lib.hid hR
  have HP := Lib.hid hP
  have Hp := Lib.hid hp
  have hplen := hp.len
  have hBb := hP.blk.lt
  obtain ⟨ap, cp, rfl, -⟩ := hp.sl.form
  obtain ⟨aa, ca, rfl, -⟩ := hP.attrs.form
  obtain ⟨np, hnp⟩ : ∃ np, np = ps.length := ⟨_, rfl⟩
  have Hnp := Lib.hid hnp
  have Hpv : Hid (IHs lo hi w (.slice ap np cp) ps) := Lib.hid (by rw [hnp]; exact hp.sl)
  rw [← hnp] at hplen ⊢
  have hB1 := alloc_below w (.cells #[.int .i64 e] 2)
  have hb1 := Blk.new w [.int .i64 e] 2 rfl
  clear hR hP hp hnp
  go_enter Try.func23, Try.ntmps23
  go_upto_region 1 with fail
  generalize w.alloc (.cells #[.int .i64 e] 2) = w1 at *
  obtain ⟨be, ebe⟩ : ∃ b, b = w.heap.size := ⟨_, rfl⟩
  rw [← ebe] at hb1 ⊢
  have hbe0 : w.heap.size ≤ be := Nat.le_of_eq ebe.symm
  have HB1 := Lib.hid hB1
  have Hb1 := Lib.hid hb1
  have hz1 := hB1.size
  clear hB1 hb1 ebe
  go_wp2_with fail
  refine CloneI_any lo hi ps _ w1 (Sl.below Hpv.out (flat_loc _) HB1.out Hp.out.le) (by have := Hp.out.le; omega) (by have := Hnp.out; omega) _ (fun w2 v2 hB2 ho2 => ?_)
  have HB2 := Lib.hid (HB1.out.trans (hB2.mono hz1))
  have hz2 := hB2.size
  have Ho2 := Lib.hid ho2
  have Hb2 := Lib.hid (Hb1.out.below hB2 Hb1.out.lt)
  obtain ⟨p2, c2, e2⟩ := Own.slice ho2
  rw [← Hnp.out] at e2
  subst e2
  clear hB2 ho2
  go_wp2_with fail
  refine DeleteFunc_it w1.heap.size ps _ 43 It.wild w2 Ho2.out (by have := Hnp.out; omega) (enters_of Try.func43 (by kernel_rfl) rfl) (fun a sp sc w' R' hR' => items1_any a sp sc w' R' hR') _ (fun w3 v3 hO3 ho3 => ?_)
  have hB23 : Below w1.heap.size w2 w3 := hO3.below hz2 (fun k e => (Own.lt Ho2.out k e).1)
  have hz3 := hO3.size
  have HB3 := Lib.hid (HB2.out.trans (hB23.mono hz1))
  have Hb3 := Lib.hid (Hb2.out.below hB23 Hb1.out.lt)
  obtain ⟨qs0, hqs0⟩ : ∃ qs0, qs0 = ps.filter (fun y => !y.1.wild) := ⟨_, rfl⟩
  rw [← hqs0] at ho3
  have Ho3 := Lib.hid ho3
  have Hqs0 := Lib.hid hqs0
  obtain ⟨nq, hnq⟩ : ∃ nq, nq = qs0.length := ⟨_, rfl⟩
  obtain ⟨p3, c3, e3⟩ := Own.slice ho3
  rw [← hnq] at e3
  subst e3
  have Hnq := Lib.hid hnq
  have hnqle : nq ≤ np := by rw [hnq, hqs0, Hnp.out]; exact List.length_filter_le _ _
  have Hmap0 : Hid (qs0.map (·.1) = (ps.map (·.1)).filter (fun i => !i.wild)) := Lib.hid (by rw [hqs0, List.filter_map]; rfl)
  have Hat0 : Hid (ItemsAt ps ats qs0) := Lib.hid (fun q hq => by
    rw [hqs0] at hq
    have := List.mem_filter.1 hq
    exact .inl ⟨this.1, by simpa using this.2⟩)
  have Hwild : Hid ((nq = np → (ps.map (·.1)).any It.wild = false) ∧ (nq ≠ np → (ps.map (·.1)).any It.wild = true)) := Lib.hid (by
    have e4 : nq = (ps.filter (fun y => !y.1.wild)).length := by rw [hnq, hqs0]
    refine ⟨fun h => ?_, fun h => ?_⟩
    · have h2 : ps.filter (fun y => !y.1.wild) = ps := List.filter_sublist.eq_of_length (by have := Hnp.out; omega)
      rw [List.any_eq_false]
      intro x hx
      obtain ⟨y, hy, rfl⟩ := List.mem_map.1 hx
      rw [← h2] at hy
      have := (List.mem_filter.1 hy).2
      simpa using this
    · refine Classical.byContradiction fun hn => h ?_
      have hn2 : (ps.map (·.1)).any It.wild = false := by simpa using hn
      rw [e4, List.filter_eq_self.2 (fun y hy => ?_), ← Hnp.out]
      have := List.any_eq_false.1 hn2 y.1 (List.mem_map.2 ⟨y, hy, rfl⟩)
      simpa using this)
  clear hO3 ho3 hB23 hqs0 hnq Ho2
  by_cases hall : nq = np
  · have hq : ((nq : Int) == (np : Int)) = true := by simp [hall]
    have hr := HR.out w3 _ qs0 HB3.out (Own.lower Ho3.out (by omega)) (by rw [Hmap0.out]; unfold itemsP; rw [Hwild.out.1 hall]; simp) Hat0.out
    clear hall
    go_wp2_with fail
    first | exact hr | exact fin hr rfl
  · have hq : ((nq : Int) == (np : Int)) = false := by simp; omega
    have HP3 := Lib.hid (HP.out.below HB3.out)
    obtain ⟨na, hna⟩ : ∃ na, na = ats.length := ⟨_, rfl⟩
    have Hna := Lib.hid hna
    have y2 := HP3.out.blk.cells 2 _ rfl
    simp only [Nat.zero_add] at y2
    rw [← hna] at y2 hats
    have Hany := Lib.hid (Hwild.out.2 hall)
    clear hna hall
    go_wp2_with fail
    clear y2
    go_loopw [7, 25] (fun t7 t25 wr => ∃ (k : Nat) (qs : List IH), k ≤ na ∧ t25 = .int .i64 k ∧ Below w.heap.size w3 wr ∧ Blk wr be [.int .i64 e] 2 ∧ OwnI w1.heap.size wr t7 qs ∧ qs.length ≤ nq + k ∧ Hid (qs.map (·.1) = (ps.map (·.1)).filter (fun i => !i.wild) ++ ((ats.take k).filter fun a => (fs.any fun f => f.e == e && f.a == a.id) && !namedP (ps.map (·.1)) a.name).map ofAttr) ∧ Hid (ItemsAt ps ats qs)) (fun _ t25 _ => na - (intOf t25).toNat)
    case atStart => exact ⟨0, qs0, Nat.zero_le _, rfl, Below.refl _ _, Hb3.out, Ho3.out, by rw [← Hnq.out]; omega, Lib.hid (by rw [Hmap0.out]; simp), Hat0⟩
    case round =>
      obtain ⟨k, qs, hk, rfl, hB, hbe, ho, hql, Hmap, Hat⟩ := hrel
      obtain ⟨wo, ewo⟩ : ∃ x, x = wr := ⟨_, rfl⟩
      subst ewo
      have HB := Lib.hid (HB3.out.trans hB)
      have HBr := Lib.hid hB
      have Hbe := Lib.hid hbe
      have Ho := Lib.hid ho
      have Hql := Lib.hid hql
      have hz := hB.size
      have kk0 : (0 : Int) ≤ (k : Int) := by omega
      obtain ⟨p7, c7, e7⟩ := Own.slice ho
      subst e7
      clear hB hbe ho hql
      by_cases hlt : k < na
      · have kkl : (k : Int) < (na : Int) := by omega
        have hkn : k < ats.length := by have := Hna.out; omega
        have HPo := Lib.hid (HP.out.below HB.out)
        obtain ⟨ao', cap', e', -, -, -, hc⟩ := HPo.out.attrs.form
        injection e' with e1 e2 e3
        subst e1 e3
        obtain ⟨ba, oa, rfl, hb1, hb2, hcc⟩ := hc k hkn
        obtain ⟨cs, -, hcs, e4⟩ := hcc k hkn
        have e5 : cs = Attr.enc ats[k] := e4
        rw [e5] at hcs
        have Hmem : Hid (ats[k] ∈ ats) := Lib.hid (List.getElem_mem hkn)
        have Hstep : Hid (ats.take (k + 1) = ats.take k ++ [ats[k]]) := Lib.hid (List.take_succ_eq_append_getElem hkn)
        generalize ats[k] = A at *
        unfold Attr.enc at hcs
        obtain ⟨a0, a1, a2, a3, a4, a5, a6⟩ := hcs.c7
        have hB4 := alloc_below wo (.cells #[.int .i64 A.id, .string ⟨A.name.toArray⟩, .int .i64 A.type, .bool A.many, .int .i64 A.unique, .bool A.part, .bool A.index] 28)
        have hb4 := Blk.new wo [.int .i64 A.id, .string ⟨A.name.toArray⟩, .int .i64 A.type, .bool A.many, .int .i64 A.unique, .bool A.part, .bool A.index] 28 rfl
        clear hc hcc e4 e5 e2 hcs hb1 hb2 cs
        go_upto_region 7 with fail
        generalize wo.alloc (.cells #[.int .i64 A.id, .string ⟨A.name.toArray⟩, .int .i64 A.type, .bool A.many, .int .i64 A.unique, .bool A.part, .bool A.index] 28) = w4 at *
        obtain ⟨b4, eb4⟩ : ∃ b, b = wo.heap.size := ⟨_, rfl⟩
        rw [← eb4] at hb4 ⊢
        have h4ge : wo.heap.size ≤ b4 := Nat.le_of_eq eb4.symm
        have hz4 := hB4.size
        have HB4 := Lib.hid (HB.out.trans (hB4.mono HB.out.size))
        have H34 : Hid (Below w.heap.size w3 w4) := Lib.hid (HBr.out.trans (hB4.mono HB.out.size))
        have Hb4 := Lib.hid hb4
        have Hbe4 := Lib.hid (Hbe.out.below hB4 Hbe.out.lt)
        have Ho4 := Lib.hid (Own.kept Ho.out hB4)
        have HP4 := Lib.hid (HP.out.below HB4.out)
        have y0 := HP4.out.blk.cells 0 _ rfl
        simp only [Nat.zero_add] at y0
        clear hB4 hb4 eb4 a0 a1 a2 a3 a4 a5 a6
        go_wp2_with fail
        refine ContainsFunc_ft 0 B _ fs 45 #[.pointer (some ⟨be, 0, none⟩), .pointer (some ⟨b4, 0, none⟩)] (fun f => f.e == e && f.a == A.id) w4 HP4.out.facts (by have := HB4.out.size; omega) (enters_of Try.func45 (by kernel_rfl) rfl) (fun f sp sc w' R' hb hR' => items2_any f sp sc e A be b4 w' (Hbe4.out.below hb Hbe4.out.lt) (Hb4.out.below hb Hb4.out.lt) R' hR') _ (fun has w5 hhas hB5 => ?_)
        have hz5 := hB5.size
        have HB5 := Lib.hid (HB4.out.trans (hB5.mono HB4.out.size))
        have Hb5 := Lib.hid (Hb4.out.below hB5 Hb4.out.lt)
        have Hbe5 := Lib.hid (Hbe4.out.below hB5 Hbe4.out.lt)
        have Ho5 := Lib.hid (Own.kept Ho4.out hB5)
        have Hhas := Lib.hid hhas
        have hO35 : Hid (Below w.heap.size w3 w5) := Lib.hid (H34.out.trans (hB5.mono HB4.out.size))
        clear hhas hB5 y0
        cases has with
        | false =>
          have Hn : Hid ((((ats.take (k + 1)).filter fun a => (fs.any fun f => f.e == e && f.a == a.id) && !namedP (ps.map (·.1)) a.name)) = ((ats.take k).filter fun a => (fs.any fun f => f.e == e && f.a == a.id) && !namedP (ps.map (·.1)) a.name)) := Lib.hid (by
            rw [Hstep.out, List.filter_append, List.filter_cons_of_neg (by rw [← Hhas.out]; simp)]
            simp)
          go_wp2_with fail
          go_roundw
          case rel => exact ⟨k + 1, qs, by omega, by go_num, hO35.out, Hbe5.out, Ho5.out, by have := Hql.out; omega, Lib.hid (by rw [Hn.out]; exact Hmap.out), Hat⟩
          case measure => simp [intOf]; omega
        | true =>
          have Hp5 := Lib.hid (Hp.out.turn (Below.only HB5.out))
          have Hi5 : Hid (IHs lo hi w5 (.slice ap np cp) ps) := Lib.hid (by rw [Hnp.out]; exact Hp5.out.sl)
          go_wp2_with fail
          refine ContainsFunc_it lo hi _ (ps.map (·.1)) 46 #[.pointer (some ⟨b4, 0, none⟩)] (fun i => !i.wild && i.attr == A.name && !i.back) w5 (IHs.flat Hi5.out) Hp5.out.le (enters_of Try.func46 (by kernel_rfl) rfl) (fun y sp sc w' R' hb hR' => items3_any y sp sc A b4 w' (Hb5.out.below hb Hb5.out.lt) R' hR') _ (fun nm w6 hnm hB6 => ?_)
          have hz6 := hB6.size
          have HB6 := Lib.hid (HB5.out.trans (hB6.mono HB5.out.size))
          have Hb6 := Lib.hid (Hb5.out.below hB6 Hb5.out.lt)
          have Hbe6 := Lib.hid (Hbe5.out.below hB6 Hbe5.out.lt)
          have Ho6 := Lib.hid (Own.kept Ho5.out hB6)
          have hO36 : Hid (Below w.heap.size w3 w6) := Lib.hid (hO35.out.trans (hB6.mono HB5.out.size))
          have Hnm : Hid (nm = namedP (ps.map (·.1)) A.name) := Lib.hid hnm
          clear hnm hB6
          cases nm with
          | true =>
            have Hn : Hid ((((ats.take (k + 1)).filter fun a => (fs.any fun f => f.e == e && f.a == a.id) && !namedP (ps.map (·.1)) a.name)) = ((ats.take k).filter fun a => (fs.any fun f => f.e == e && f.a == a.id) && !namedP (ps.map (·.1)) a.name)) := Lib.hid (by
              rw [Hstep.out, List.filter_append, List.filter_cons_of_neg (by rw [← Hnm.out]; simp)]
              simp)
            go_wp2_with fail
            go_roundw
            case rel => exact ⟨k + 1, qs, by omega, by go_num, hO36.out, Hbe6.out, Ho6.out, by have := Hql.out; omega, Lib.hid (by rw [Hn.out]; exact Hmap.out), Hat⟩
            case measure => simp [intOf]; omega
          | false =>
            have Hn : Hid ((((ats.take (k + 1)).filter fun a => (fs.any fun f => f.e == e && f.a == a.id) && !namedP (ps.map (·.1)) a.name)) = ((ats.take k).filter fun a => (fs.any fun f => f.e == e && f.a == a.id) && !namedP (ps.map (·.1)) a.name) ++ [A]) := Lib.hid (by
              rw [Hstep.out, List.filter_append, List.filter_cons_of_pos (by rw [← Hnm.out, ← Hhas.out]; rfl)]
              simp)
            obtain ⟨v8, w8, hr8, ho8, ha8⟩ := app_one Try.underlying24 infoI rfl IH.len IH.one Ho6.out ((ofAttr A, (none, 0)) : IH) (n := w6.heap.size) rfl (by have := Hql.out; omega) (by decide) (by omega)
            have hr8' : (Builtin.append_ #[24, 24] 24 #[.slice p7 qs.length c7, .slice (some ⟨w6.heap.size, 0, none⟩) 1 1]).run Try.prog (w6.alloc (.cells #[.bool false, .string ⟨A.name.toArray⟩, .bool false, .int .i64 0, .bool false, .int .i64 0, .int .i64 0, .string ⟨#[]⟩, .bool false, .slice none 0 0, .int .i64 0] 66)) = .ok v8 w8 := hr8
            have hB8 := ha8.below (B := w1.heap.size) (by omega) (fun k e => (Own.lt Ho6.out k e).1)
            have hO38 : Hid (Below w.heap.size w3 w8) := Lib.hid (hO36.out.trans (hB8.mono hz1))
            have Hbe8 := Lib.hid (ha8.blk Hbe6.out (fun e => by have := (Own.lt Ho6.out _ e).1; have := Hb1.out.lt; omega))
            have Ho8 := Lib.hid ho8
            obtain ⟨g0, g1, -⟩ := Hb6.out.cells.c7
            simp only [Nat.zero_add] at g1
            clear hr8 ho8 ha8 hB8 g0
            go_wp2_with (at_builtin; refine AtApp.of ?_)
            refine AtApp.go hr8' rfl rfl rfl rfl ?_
            clear hr8' g1
            go_wp2_with fail
            go_roundw
            case rel => exact ⟨k + 1, _, by omega, by go_num, hO38.out, Hbe8.out, Ho8.out, by rw [List.length_append]; have := Hql.out; simp; omega, Lib.hid (by rw [Hn.out, List.map_append, Hmap.out, List.map_append, List.append_assoc]; rfl), Lib.hid (fun q hq => by
              rcases List.mem_append.1 hq with hq | hq
              · exact Hat.out q hq
              · obtain rfl := List.mem_singleton.1 hq
                exact .inr ⟨A, Hmem.out, rfl⟩)⟩
            case measure => simp [intOf]; omega
      · have hke : k = na := by omega
        have kkl : ¬ ((k : Nat) : Int) < (na : Int) := by omega
        have hr := HR.out wo _ qs HB.out (Own.lower Ho.out (by omega)) (by
          rw [Hmap.out, hke, List.take_of_length_le (by rw [Hna.out]; exact Nat.le_refl _)]
          unfold itemsP
          rw [if_pos Hany.out]) Hat.out
        clear hke
        go_wp2_with fail
        first | exact hr | exact fin hr rfl
end Go.Proofs.Yticbhfmpnmolcaa
end
