/- Texts that the proofs of FoldTells stand on, part 5. -/
import Derived.Test.YtmconajkgjfplaaGreatKFoldTells4
/- The iterator of fold.groups: the key of each group, and its rows. (Printed by fldd.py.) -/
section
set_option linter.unusedVariables false
set_option linter.unusedSimpArgs false
namespace Go.Proofs.YtmconajkgjfplaaGreat
open Go.RowKit Go.Shelf
set_option linter.unusedVariables false
set_option linter.unusedSimpArgs false
attribute [local go_sem] Oper.semAt_some

theorem Sl.within {P : Program} {α : Type} {E : El α} {size lo hi : Nat} {w : World} {a : Option Addr} {cap : Nat} {xs : List α} (h : Sl E size lo hi w (.slice a xs.length cap) xs) (t : TypeId) (ht : P.underlying t = some (.slice (P.elem t))) (hsz : ∀ w, (sizeOf (P.elem t)).run P w = .ok size w) (n m : Nat) (hn : n < m) (hm : m ≤ xs.length) :
    ∃ v1, (∀ w', (Instr.slice t (.slice a xs.length cap) (some (.int .i64 (n : Int))) (some (.int .i64 (m : Int))) none).run P w' = .ok v1 w') ∧ Sl E size lo hi w v1 ((xs.drop n).take (m - n)) := by
  obtain ⟨ao, c, e, h1, h2, h3, h4⟩ := h
  injection e with e1 _ e3
  subst e1 e3
  refine ⟨sliced a n m cap size, fun w' => ?_, ?_⟩
  · rw [run_slice_lh w' t a xs.length cap ht .i64 .i64 (n : Int) (m : Int) (by omega) (by omega) (by omega)]
    simp only [hsz, Result.andThen, Int.toNat_natCast]
  · have hx : xs ≠ [] := fun e => by subst e; simp at hm; omega
    obtain ⟨b, off, e, k1, k2, k3⟩ := h4 hx
    subst e
    unfold sliced
    rw [if_neg (by omega)]
    have := Sl.piece (cap := 0) k3 k1 k2 n (m - n) (cap - n) (by omega) (by omega) (by omega)
    simp only [Option.map_some, Addr.add_lit]
    exact this
/-- A loop's place: k groups are told, and i lies in the next one. -/
def Mid (f : List V → List V) (l : List (List V)) (k i : Nat) : Prop :=
  posK (runsK f l) k ≤ i ∧ (i < l.length → k < (runsK f l).length ∧ i < posK (runsK f l) (k + 1)) ∧ (i = l.length → k = (runsK f l).length)
theorem Mid.start (f : List V → List V) (l : List (List V)) : Mid f l 0 0 := ⟨Nat.zero_le _, fun h => (runsK_start f).1 h, fun h => ((runsK_start f).2 h.symm).symm⟩
theorem Mid.on {f : List V → List V} {l : List (List V)} {k i : Nat} (h : Mid f l k i) (hs : l.Pairwise fun x y => 0 ≤ cmpR (f y) (f x)) (hi : i + 1 < l.length) (hc : cmpR (f (l[i]'(by omega))) (f l[i + 1]) = 0) : Mid f l k (i + 1) := by
  obtain ⟨h1, h2, -⟩ := h
  obtain ⟨h3, h4⟩ := h2 (by omega)
  have := ((run_next f hs h3 h1 h4 (by omega)).2 hi).1 hc
  exact ⟨by omega, fun _ => ⟨h3, this⟩, fun e => by omega⟩
theorem Mid.cut {f : List V → List V} {l : List (List V)} {k i : Nat} (h : Mid f l k i) (hs : l.Pairwise fun x y => 0 ≤ cmpR (f y) (f x)) (hi : i < l.length) (hc : ∀ h : i + 1 < l.length, cmpR (f l[i]) (f l[i + 1]) ≠ 0) :
    k < (runsK f l).length ∧ posK (runsK f l) k < i + 1 ∧ i + 1 = posK (runsK f l) (k + 1) ∧ Mid f l (k + 1) (i + 1) ∧ (∀ hk : k < (runsK f l).length, (l.drop (posK (runsK f l) k)).take (i + 1 - posK (runsK f l) k) = (runsK f l)[k] ∧ f l[i] = keyG f (runsK f l)[k]) := by
  obtain ⟨h1, h2, -⟩ := h
  obtain ⟨h3, h4⟩ := h2 hi
  have hn := run_next f hs h3 h1 h4 hi
  have hle := posK_le (runsK f l) (k + 1)
  rw [runsK_flat] at hle
  have he : i + 1 = posK (runsK f l) (k + 1) := by
    by_cases hlt : i + 1 < l.length
    · have := mt (hn.2 hlt).2 (hc hlt); omega
    · omega
  have hj := run_jump f h3
  refine ⟨h3, by omega, he, ⟨by omega, fun h => ?_, fun h => ?_⟩, fun hk => ⟨?_, hn.1⟩⟩
  · have := hj.1 (by omega); exact ⟨this.1, by rw [he]; exact this.2⟩
  · exact hj.2 (by omega)
  · have h5 := posK_cut (runsK f l) hk
    have h6 := posK_succ (runsK f l) hk
    rw [runsK_flat] at h5
    rw [he, h6, Nat.add_sub_cancel_left]
    exact h5
set_option maxRecDepth 100000 in
set_option maxHeartbeats 8000000 in
theorem groups1_any (a b la ha br bt L m : Nat) (l : List (List V)) (at' : List Int) (cv rv va : Value) (J : Nat → Nat → World → Prop) (Z : World → Prop) (W0 : World)
    (hrows : Rws a b W0 rv l) (hb : b ≤ W0.heap.size) (hbr : Blk W0 br [cv, rv] 25) (hok : ∀ x ∈ l, AtOk x.length at') (hlen : l.length ≤ 1000000000) (hal : at'.length ≤ 1000000000000) (hha : ha ≤ W0.heap.size) (hbt : bt < W0.heap.size) (hat0 : Ints la ha W0 va at') (hbt0 : Blk W0 bt [va] 58)
    (hJF : ∀ k g W, J k g W → Agree a b W0 W ∧ Blk W bt [va] 58 ∧ Ints la ha W va at' ∧ W0.heap.size ≤ W.heap.size)
    (hJB : ∀ k g W W', J k g W → Below W.heap.size W W' → J k g W')
    (hJ0 : ∀ g W, Below W0.heap.size W0 W → W0.heap.size ≤ g → J 0 g W)
    (hY : ∀ k g Wb W kp kc gp gc grp, J k g Wb → Below Wb.heap.size Wb W → g < Wb.heap.size → (hk : k < (keysL (fun x => pickL x at') l).length) → OwnV Wb.heap.size W (.slice kp (keysL (fun x => pickL x at') l)[k].length kc) (keysL (fun x => pickL x at') l)[k] → Rws 0 Wb.heap.size W (.slice gp grp.length gc) grp → grp.Perm (withK (fun x => pickL x at') l (keysL (fun x => pickL x at') l)[k]) →
      YieldAt Fence.wide m Tryz.prog L #[.slice kp (keysL (fun x => pickL x at') l)[k].length kc, .slice gp grp.length gc] W (fun e W' => (e = .returned (.bool true) ∧ J (k + 1) g W' ∧ W'.heap[g]? = W.heap[g]?) ∨ (e = .returned (.bool false) ∧ Z W'))) :
    CallsIn Fence.wide (m + 1) Tryz.prog 50 #[.func (.yield L) #[] #[], .pointer (some ⟨br, 0, none⟩), .pointer (some ⟨bt, 0, none⟩)] W0 (fun e W' => (∃ v, e = .returned v) ∧ ((∃ g, J (keysL (fun x => pickL x at') l).length g W') ∨ Z W')) := by
  have HJF := Lib.hid hJF
  have HJB := Lib.hid hJB
  have HJ0 := Lib.hid hJ0
  have HY := Lib.hid hY
  have Hrows := Lib.hid hrows
  have Hok := Lib.hid hok
  have Hat0 := Lib.hid hat0
  have Hbt0 := Lib.hid hbt0
  obtain ⟨ra, rc, rfl, -, -, -, -⟩ := hrows.form
  obtain ⟨aa, ca, rfl, -, -, -, -⟩ := hat0.form
  obtain ⟨c0, c1⟩ := hbr.cells.c2
  have hbrl := hbr.lt
  clear hJF hJB hJ0 hY hrows hok hbr hat0 hbt0
  refine callsIn_of_wp Tryz.func50 rfl trivial ?_ rfl
  simp only [Tryz.ntmps50, List.size_toArray, List.length_cons, Nat.reduceAdd, Nat.reduceSub, Array.replicate_succ, Array.replicate_zero, List.push_toArray, List.append_toArray, List.nil_append, List.cons_append, List.length_nil]
  refine wpIn_wide.2 (wp_scope_straight ((wpIn_wide (n := m + 1)).1 ?_))
  gi_wp2_with fail
  refine ⟨by first | trivial | simp, callsIn_wide.2 (CloneRws_any a b l _ W0 Hrows.out hb (by omega) _ (fun W1 v1 hB1 hL1 => ?_))⟩
  have HB1 := Lib.hid hB1
  have HL1 := Lib.hid hL1
  obtain ⟨p1, k1, rfl⟩ := LS.slice hL1
  clear hB1 hL1
  gi_wp2_with fail
  refine ⟨by first | trivial | simp, callsIn_wide.2 (SortStable_any W0.heap.size a b la ha bt _ _ l at' W1 HL1.out hb hha hbt (Hbt0.out.below HB1.out hbt) (Sl.below Hat0.out Ints.loc HB1.out hha) Hok.out hal (by omega) _ (fun W2 l' hO2 hL2 hP2 hS2 => ?_))⟩
  have hll : l'.length = l.length := hP2.length_eq
  rw [← hll] at hL2 hO2
  obtain ⟨g, hg1, hg2⟩ : ∃ g, W0.heap.size ≤ g ∧ ∀ g', (Value.slice p1 l'.length k1).ownBlock = some g' → g' = g := by
    cases hob : (Value.slice p1 l'.length k1).ownBlock with
    | none => exact ⟨_, Nat.le_refl _, fun g' e => by cases e⟩
    | some g => exact ⟨g, (LS.lt hL2 g hob).1, fun g' e => by injection e with e; exact e.symm⟩
  have HG2 := Lib.hid hg2
  have HLs := Lib.hid hL2
  have HS := Lib.hid hS2
  have HP := Lib.hid hP2
  have HOk : Hid (∀ x ∈ l', AtOk x.length at') := Lib.hid (fun x hx => Hok.out x (hP2.mem_iff.1 hx))
  have HT : Hid ((runsK (fun x => pickL x at') l').length = (keysL (fun x => pickL x at') l).length) := Lib.hid (by rw [← runsK_canon (fun x => pickL x at') hS2 hP2, List.length_map])
  have HJ := Lib.hid (HJ0.out g W2 (HB1.out.trans (hO2.below HB1.out.size (fun k e => (LS.lt HL1.out k (by rw [hll] at e; exact e)).1))) hg1)
  have hl9 : l'.length ≤ 1000000000 := by omega
  rw [← hll]
  clear hL2 hO2 hS2 hP2 hg2 c0 c1 HB1 HL1 HJ0 Hbt0 Hat0 Hrows Hok
  clear hll
  gi_wp2_with fail
  refine wpIn_label ?_
  gi_wp2_with fail
  gi_loopw [5, 15] (fun t5 t15 wr => ∃ k i from' : Nat, t5 = .int .i64 from' ∧ t15 = .int .i64 i ∧ i ≤ l'.length ∧ Hid (from' = posK (runsK (fun x => pickL x at') l') k) ∧ Hid (Mid (fun x => pickL x at') l' k i) ∧ Hid (LS W0.heap.size a b wr (.slice p1 l'.length k1) l') ∧ Hid (J k g wr)) (fun _ t15 _ => l'.length - (intOf t15).toNat)
  case atStart => exact ⟨0, 0, 0, rfl, rfl, Nat.zero_le _, Lib.hid rfl, Lib.hid (Mid.start _ _), HLs, HJ⟩
  case round =>
    clear HLs HJ
    obtain ⟨k, i, fr, rfl, rfl, hil, Hfr, HM, HLs, HJ⟩ := hrel
    obtain ⟨wo, ewo⟩ : ∃ x, x = wr := ⟨_, rfl⟩
    subst ewo
    obtain ⟨f1, f2, f3, f4⟩ := HJF.out _ _ _ HJ.out
    have hz := f4
    have F1 := Lib.hid f1
    have F2 := Lib.hid f2
    have F3 := Lib.hid f3
    clear f1 f2 f3 f4
    have ii0 : (0 : Int) ≤ (i : Int) := by omega
    by_cases hlt : i < l'.length
    · have iil : (i : Int) < (l'.length : Int) := by omega
      have RR := Lib.hid (LS.rws HLs.out (w := wo) (by omega))
      obtain ⟨b4, o4, rfl, hb4, hrow4⟩ := Rws.at RR.out (Nat.le_refl _) (by omega)
      have hgl : g < wo.heap.size := by
        have e := HG2.out
        obtain ⟨hs, hl, ho, -⟩ := HLs.out
        obtain ⟨g3, c3, e3, -, h3, -⟩ := Own.form ho (by intro e; subst e; simp at hl; omega)
        injection e3 with e3 _ _
        injection e3 with e3
        injection e3 with e3 e5 _
        subst e3 e5
        rw [← e b4 rfl]; exact h3
      obtain ⟨p2, c2, g2, r2⟩ := hrow4 i hlt
      obtain ⟨x, hx⟩ : ∃ x, x = l'[i] := ⟨_, rfl⟩
      rw [← hx] at g2 r2
      have Hx := Lib.hid hx
      have G2 := Lib.hid g2
      have R2 := Lib.hid r2
      have Hkx : Hid (AtOk x.length at') := Lib.hid (by rw [hx]; exact HOk.out _ (List.getElem_mem hlt))
      obtain ⟨j, hj⟩ : ∃ j, j = i + 1 := ⟨_, rfl⟩
      have Hj := Lib.hid hj
      have ej : IntKind.i64.wrap ((i : Int) + 1) = (j : Int) := (wrapOk (by omega) (by omega)).trans (by omega)
      have jj0 : (0 : Int) ≤ (j : Int) := by omega
      have hxl := r2.len
      clear g2 r2 hx hj
      have HR4 := Lib.hid hrow4
      clear hrow4
      gi_wp2_with fail
      by_cases hjl0 : j < l'.length
      · have jjl : (j : Int) < (l'.length : Int) := by omega
        obtain ⟨p3, c3, g3, r3⟩ := HR4.out j hjl0
        obtain ⟨y, hy⟩ : ∃ y, y = l'[j] := ⟨_, rfl⟩
        rw [← hy] at g3 r3
        have Hy := Lib.hid hy
        have G3 := Lib.hid g3
        have R3 := Lib.hid r3
        have Hky : Hid (AtOk y.length at') := Lib.hid (by rw [hy]; exact HOk.out _ (List.getElem_mem hjl0))
        have hyl := r3.len
        clear g3 r3 hy
        by_cases hc : cmpR (pickL x at') (pickL y at') = 0
        · have HC := Lib.hid hc
          clear hc
          refine wpIn_wide.2 ?_
          refine wp_region_held_drew (S := fun w' => Gw wo w') (by kernel_rfl) ((Gw.refl _).drew) (fun hHeld => ?_)
          refine wpAnyH_take (i := 0) (v := .int .i64 ((i : Int))) rfl (by kernel_rfl) (by kernel_rfl) (by kernel_rfl) (fun _ _ _ h => h) (Or.inl ⟨by rfl, ?_⟩) hHeld ?_
          · intro w' hSw; go_simp
          try simp only [Act.put, List.getElem_toArray, List.getElem_cons_succ, List.getElem_cons_zero, List.setIfInBounds_toArray, List.set_cons_zero, List.set_cons_succ]
          refine wpAnyH_take (i := 1) (v := .int .i64 ((j : Int))) rfl (by kernel_rfl) (by kernel_rfl) (by kernel_rfl) (fun _ _ _ h => h) (Or.inl ⟨by rfl, ?_⟩) hHeld ?_
          · intro w' hSw; go_simp
          try simp only [Act.put, List.getElem_toArray, List.getElem_cons_succ, List.getElem_cons_zero, List.setIfInBounds_toArray, List.set_cons_zero, List.set_cons_succ]
          refine wpAnyH_take (i := 2) (v := .slice (some ⟨b4, o4, none⟩) l'.length k1) rfl (by kernel_rfl) (by kernel_rfl) (by kernel_rfl) (fun _ _ _ h => h) (Or.inl ⟨by rfl, ?_⟩) hHeld ?_
          · intro w' hSw; go_simp
          try simp only [Act.put, List.getElem_toArray, List.getElem_cons_succ, List.getElem_cons_zero, List.setIfInBounds_toArray, List.set_cons_zero, List.set_cons_succ]
          refine wpAnyH_take (i := 3) (v := .int .i64 ((l'.length : Int))) rfl (by kernel_rfl) (by kernel_rfl) (by kernel_rfl) (fun _ _ _ h => h) (Or.inl ⟨by rfl, ?_⟩) hHeld ?_
          · intro w' hSw; go_simp
          try simp only [Act.put, List.getElem_toArray, List.getElem_cons_succ, List.getElem_cons_zero, List.setIfInBounds_toArray, List.set_cons_zero, List.set_cons_succ]
          refine wpAnyH_take (i := 4) (v := .bool true) rfl (by kernel_rfl) (by kernel_rfl) (by kernel_rfl) (fun _ _ _ h => h) (Or.inl ⟨by rfl, ?_⟩) hHeld ?_
          · intro w' hSw; go_simp
          try simp only [Act.put, List.getElem_toArray, List.getElem_cons_succ, List.getElem_cons_zero, List.setIfInBounds_toArray, List.set_cons_zero, List.set_cons_succ]
          refine wpAnyH_take (i := 5) (v := .bool true) rfl (by kernel_rfl) (by kernel_rfl) (by kernel_rfl) (fun _ _ _ h => h) (Or.inl ⟨by rfl, ?_⟩) hHeld ?_
          · intro w' hSw; go_simp
          try simp only [Act.put, List.getElem_toArray, List.getElem_cons_succ, List.getElem_cons_zero, List.setIfInBounds_toArray, List.set_cons_zero, List.set_cons_succ]
          refine wpAnyH_take (i := 6) (v := .slice (some ⟨b4, o4, none⟩) l'.length k1) rfl (by kernel_rfl) (by kernel_rfl) (by kernel_rfl) (fun _ _ _ h => h) (Or.inl ⟨by rfl, ?_⟩) hHeld ?_
          · intro w' hSw; go_simp
          try simp only [Act.put, List.getElem_toArray, List.getElem_cons_succ, List.getElem_cons_zero, List.setIfInBounds_toArray, List.set_cons_zero, List.set_cons_succ]
          refine wpAnyH_take (i := 7) (v := .int .i64 ((i : Int))) rfl (by kernel_rfl) (by kernel_rfl) (by kernel_rfl) (fun _ _ _ h => h) (Or.inl ⟨by rfl, ?_⟩) hHeld ?_
          · intro w' hSw; go_simp
          try simp only [Act.put, List.getElem_toArray, List.getElem_cons_succ, List.getElem_cons_zero, List.setIfInBounds_toArray, List.set_cons_zero, List.set_cons_succ]
          refine wpAnyH_take (i := 8) (v := .pointer (some ⟨b4, o4 + i, none⟩)) rfl (by kernel_rfl) (by kernel_rfl) (by kernel_rfl) (fun _ _ _ h => h) (Or.inl ⟨by rfl, ?_⟩) hHeld ?_
          · intro w' hSw; go_simp
          try simp only [Act.put, List.getElem_toArray, List.getElem_cons_succ, List.getElem_cons_zero, List.setIfInBounds_toArray, List.set_cons_zero, List.set_cons_succ]
          refine wpAnyH_take (i := 9) (v := .slice p2 x.length c2) rfl (by kernel_rfl) (by kernel_rfl) (by kernel_rfl) (fun _ _ _ h => h) (Or.inl ⟨by rfl, ?_⟩) hHeld ?_
          · intro w' hSw; have kx := G2.out w' hSw.below; go_simp
          try simp only [Act.put, List.getElem_toArray, List.getElem_cons_succ, List.getElem_cons_zero, List.setIfInBounds_toArray, List.set_cons_zero, List.set_cons_succ]
          refine wpAnyH_take (i := 10) (v := .slice aa at'.length ca) rfl (by kernel_rfl) (by kernel_rfl) (by kernel_rfl) (fun _ _ _ h => h) (Or.inl ⟨by rfl, ?_⟩) hHeld ?_
          · intro w' hSw; have kx := ((F2.out.below hSw.below (by omega)).cells).c1; go_simp
          try simp only [Act.put, List.getElem_toArray, List.getElem_cons_succ, List.getElem_cons_zero, List.setIfInBounds_toArray, List.set_cons_zero, List.set_cons_succ]
          refine wpAnyH_take (i := 12) (v := .slice (some ⟨b4, o4, none⟩) l'.length k1) rfl (by kernel_rfl) (by kernel_rfl) (by kernel_rfl) (fun _ _ _ h => h) (Or.inl ⟨by rfl, ?_⟩) hHeld ?_
          · intro w' hSw; go_simp
          try simp only [Act.put, List.getElem_toArray, List.getElem_cons_succ, List.getElem_cons_zero, List.setIfInBounds_toArray, List.set_cons_zero, List.set_cons_succ]
          refine wpAnyH_take (i := 13) (v := .int .i64 ((i : Int))) rfl (by kernel_rfl) (by kernel_rfl) (by kernel_rfl) (fun _ _ _ h => h) (Or.inl ⟨by rfl, ?_⟩) hHeld ?_
          · intro w' hSw; go_simp
          try simp only [Act.put, List.getElem_toArray, List.getElem_cons_succ, List.getElem_cons_zero, List.setIfInBounds_toArray, List.set_cons_zero, List.set_cons_succ]
          refine wpAnyH_take (i := 14) (v := .int .i64 ((j : Int))) rfl (by kernel_rfl) (by kernel_rfl) (by kernel_rfl) (fun _ _ _ h => h) (Or.inl ⟨by rfl, ?_⟩) hHeld ?_
          · intro w' hSw; go_simp
          try simp only [Act.put, List.getElem_toArray, List.getElem_cons_succ, List.getElem_cons_zero, List.setIfInBounds_toArray, List.set_cons_zero, List.set_cons_succ]
          refine wpAnyH_take (i := 15) (v := .pointer (some ⟨b4, o4 + j, none⟩)) rfl (by kernel_rfl) (by kernel_rfl) (by kernel_rfl) (fun _ _ _ h => h) (Or.inl ⟨by rfl, ?_⟩) hHeld ?_
          · intro w' hSw; go_simp
          try simp only [Act.put, List.getElem_toArray, List.getElem_cons_succ, List.getElem_cons_zero, List.setIfInBounds_toArray, List.set_cons_zero, List.set_cons_succ]
          refine wpAnyH_take (i := 16) (v := .slice p3 y.length c3) rfl (by kernel_rfl) (by kernel_rfl) (by kernel_rfl) (fun _ _ _ h => h) (Or.inl ⟨by rfl, ?_⟩) hHeld ?_
          · intro w' hSw; have kx := G3.out w' hSw.below; go_simp
          try simp only [Act.put, List.getElem_toArray, List.getElem_cons_succ, List.getElem_cons_zero, List.setIfInBounds_toArray, List.set_cons_zero, List.set_cons_succ]
          refine wpAnyH_take (i := 17) (v := .slice aa at'.length ca) rfl (by kernel_rfl) (by kernel_rfl) (by kernel_rfl) (fun _ _ _ h => h) (Or.inl ⟨by rfl, ?_⟩) hHeld ?_
          · intro w' hSw; have kx := ((F2.out.below hSw.below (by omega)).cells).c1; go_simp
          try simp only [Act.put, List.getElem_toArray, List.getElem_cons_succ, List.getElem_cons_zero, List.setIfInBounds_toArray, List.set_cons_zero, List.set_cons_succ]
          refine wpAnyH_ready (rs := [11]) (by kernel_rfl) (by simp) ?_
          refine allCall (f := 54) (args := #[.slice p2 x.length c2, .slice aa at'.length ca]) rfl (by kernel_rfl) (by kernel_rfl) ?_ AllReadyH.nil
          refine key_any 0 wo.heap.size la ha x at' _ _ wo.drew (Sl.below R2.out Row1.loc ((Below.refl _ _).drew) (Nat.le_refl _)) (Nat.le_refl _) (Sl.below F3.out Ints.loc ((Below.refl wo.heap.size wo).drew) (by omega)) (by show ha ≤ wo.heap.size; omega) Hkx.out hal _ (fun w1 v1 hg1 ho1 => ?_)
          obtain ⟨p5, c5, rfl⟩ := Own.slice ho1
          have hG1 : Gw wo w1 := ((Gw.refl _).drew).trans hg1
          have HG1 := Lib.hid hG1
          have HO1 : Hid (OwnV wo.heap.size w1 _ _) := Lib.hid ho1
          refine ⟨_, rfl, hG1, ?_⟩
          clear hHeld
          have hHeld := hG1
          clear ho1 hg1 hG1
          try simp only [Act.put, List.getElem_toArray, List.getElem_cons_succ, List.getElem_cons_zero, List.setIfInBounds_toArray, List.set_cons_zero, List.set_cons_succ]
          refine wpAnyH_ready (rs := [18]) (by kernel_rfl) (by simp) ?_
          refine allCall (f := 54) (args := #[.slice p3 y.length c3, .slice aa at'.length ca]) rfl (by kernel_rfl) (by kernel_rfl) ?_ AllReadyH.nil
          refine key_any 0 wo.heap.size la ha y at' _ _ w1 (Sl.below R3.out Row1.loc HG1.out.below (Nat.le_refl _)) HG1.out.size (Sl.below F3.out Ints.loc HG1.out.below (by omega)) (by have := HG1.out.size; omega) Hky.out hal _ (fun w2 v2 hg2' ho2 => ?_)
          obtain ⟨p6, c6, rfl⟩ := Own.slice ho2
          have hG2 : Gw wo w2 := HG1.out.trans hg2'
          have HG2' := Lib.hid hG2
          have HG12 := Lib.hid hg2'
          have HO2 : Hid (OwnV w1.heap.size w2 _ _) := Lib.hid ho2
          refine ⟨_, rfl, hG2, ?_⟩
          clear hHeld
          have hHeld := hG2
          clear ho2 hg2' hG2
          try simp only [Act.put, List.getElem_toArray, List.getElem_cons_succ, List.getElem_cons_zero, List.setIfInBounds_toArray, List.set_cons_zero, List.set_cons_succ]
          refine wpAnyH_ready (rs := [19]) (by kernel_rfl) (by simp) ?_
          refine allCall (f := 9) (args := #[.slice p5 (pickL x at').length c5, .slice p6 (pickL y at').length c6]) rfl (by kernel_rfl) (by kernel_rfl) ?_ AllReadyH.nil
          refine rowsCompare_any _ _ _ _ (pickL x at') (pickL y at') _ _ w2 (OwnV.sl (Own.kept HO1.out HG12.out.below)) (OwnV.sl HO2.out) (Nat.le_refl _) (Nat.le_refl _) _ (fun w6 hg6 => ?_)
          have hG6 : Gw wo w6 := HG2'.out.trans hg6
          have HG6 := Lib.hid hG6
          refine ⟨_, rfl, hG6, ?_⟩
          clear hHeld
          have hHeld := hG6
          clear hg6 hG6 HG1 HG2' HG12 HO1 HO2
          rw [HC.out]
          try simp only [Act.put, List.getElem_toArray, List.getElem_cons_succ, List.getElem_cons_zero, List.setIfInBounds_toArray, List.set_cons_zero, List.set_cons_succ]
          refine wpAnyH_take (i := 20) (v := .bool true) rfl (by kernel_rfl) (by kernel_rfl) (by kernel_rfl) (fun _ _ _ h => h) (Or.inl ⟨by rfl, ?_⟩) hHeld ?_
          · intro w' hSw; go_simp
          try simp only [Act.put, List.getElem_toArray, List.getElem_cons_succ, List.getElem_cons_zero, List.setIfInBounds_toArray, List.set_cons_zero, List.set_cons_succ]
          refine wpAnyH_take (i := 21) (v := .bool true) rfl (by kernel_rfl) (by kernel_rfl) (by kernel_rfl) (fun _ _ _ h => h) (Or.inl ⟨by rfl, ?_⟩) hHeld ?_
          · intro w' hSw; go_simp
          try simp only [Act.put, List.getElem_toArray, List.getElem_cons_succ, List.getElem_cons_zero, List.setIfInBounds_toArray, List.set_cons_zero, List.set_cons_succ]
          refine wpAnyH_done (by kernel_rfl) ?_ _
          clear hHeld
          gi_wp2_with fail
          have HCC : Hid (∀ h : i + 1 < l'.length, cmpR (pickL l'[i] at') (pickL l'[i + 1] at') = 0) := Lib.hid (fun h => by
            have e1 := Hx.out
            have e2 := Hy.out
            have e3 := Hj.out
            subst e3
            rw [← e1, ← e2]
            exact HC.out)
          go_roundw
          case rel =>
            exact ⟨k, j, fr, rfl, by first | rfl | go_num, by omega, Hfr, Lib.hid (by rw [Hj.out]; exact HM.out.on HS.out (by have := Hj.out; omega) (HCC.out (by have := Hj.out; omega))), Lib.hid (LS.same HLs.out (w' := w6) (fun g' e => HG6.out.below.block g' (LS.lt HLs.out g' e).2) (.below HG6.out.below (by omega))), Lib.hid (HJB.out _ _ _ _ HJ.out HG6.out.below)⟩
          case measure => have := Hj.out; simp [intOf]; omega
        · have HC := Lib.hid hc
          have HC2 : Hid (∀ h : i + 1 < l'.length, cmpR ((fun x => pickL x at') l'[i]) ((fun x => pickL x at') l'[i + 1]) ≠ 0) := Lib.hid (fun h => by
            have e1 := Hx.out
            have e2 := Hy.out
            have e3 := Hj.out
            subst e3
            show cmpR (pickL l'[i] at') (pickL l'[i + 1] at') ≠ 0
            rw [← e1, ← e2]
            exact HC.out)
          clear hc
          refine wpIn_wide.2 ?_
          refine wp_region_held_drew (S := fun w' => Gw wo w') (by kernel_rfl) ((Gw.refl _).drew) (fun hHeld => ?_)
          refine wpAnyH_take (i := 0) (v := .int .i64 ((i : Int))) rfl (by kernel_rfl) (by kernel_rfl) (by kernel_rfl) (fun _ _ _ h => h) (Or.inl ⟨by rfl, ?_⟩) hHeld ?_
          · intro w' hSw; go_simp
          try simp only [Act.put, List.getElem_toArray, List.getElem_cons_succ, List.getElem_cons_zero, List.setIfInBounds_toArray, List.set_cons_zero, List.set_cons_succ]
          refine wpAnyH_take (i := 1) (v := .int .i64 ((j : Int))) rfl (by kernel_rfl) (by kernel_rfl) (by kernel_rfl) (fun _ _ _ h => h) (Or.inl ⟨by rfl, ?_⟩) hHeld ?_
          · intro w' hSw; go_simp
          try simp only [Act.put, List.getElem_toArray, List.getElem_cons_succ, List.getElem_cons_zero, List.setIfInBounds_toArray, List.set_cons_zero, List.set_cons_succ]
          refine wpAnyH_take (i := 2) (v := .slice (some ⟨b4, o4, none⟩) l'.length k1) rfl (by kernel_rfl) (by kernel_rfl) (by kernel_rfl) (fun _ _ _ h => h) (Or.inl ⟨by rfl, ?_⟩) hHeld ?_
          · intro w' hSw; go_simp
          try simp only [Act.put, List.getElem_toArray, List.getElem_cons_succ, List.getElem_cons_zero, List.setIfInBounds_toArray, List.set_cons_zero, List.set_cons_succ]
          refine wpAnyH_take (i := 3) (v := .int .i64 ((l'.length : Int))) rfl (by kernel_rfl) (by kernel_rfl) (by kernel_rfl) (fun _ _ _ h => h) (Or.inl ⟨by rfl, ?_⟩) hHeld ?_
          · intro w' hSw; go_simp
          try simp only [Act.put, List.getElem_toArray, List.getElem_cons_succ, List.getElem_cons_zero, List.setIfInBounds_toArray, List.set_cons_zero, List.set_cons_succ]
          refine wpAnyH_take (i := 4) (v := .bool true) rfl (by kernel_rfl) (by kernel_rfl) (by kernel_rfl) (fun _ _ _ h => h) (Or.inl ⟨by rfl, ?_⟩) hHeld ?_
          · intro w' hSw; go_simp
          try simp only [Act.put, List.getElem_toArray, List.getElem_cons_succ, List.getElem_cons_zero, List.setIfInBounds_toArray, List.set_cons_zero, List.set_cons_succ]
          refine wpAnyH_take (i := 5) (v := .bool true) rfl (by kernel_rfl) (by kernel_rfl) (by kernel_rfl) (fun _ _ _ h => h) (Or.inl ⟨by rfl, ?_⟩) hHeld ?_
          · intro w' hSw; go_simp
          try simp only [Act.put, List.getElem_toArray, List.getElem_cons_succ, List.getElem_cons_zero, List.setIfInBounds_toArray, List.set_cons_zero, List.set_cons_succ]
          refine wpAnyH_take (i := 6) (v := .slice (some ⟨b4, o4, none⟩) l'.length k1) rfl (by kernel_rfl) (by kernel_rfl) (by kernel_rfl) (fun _ _ _ h => h) (Or.inl ⟨by rfl, ?_⟩) hHeld ?_
          · intro w' hSw; go_simp
          try simp only [Act.put, List.getElem_toArray, List.getElem_cons_succ, List.getElem_cons_zero, List.setIfInBounds_toArray, List.set_cons_zero, List.set_cons_succ]
          refine wpAnyH_take (i := 7) (v := .int .i64 ((i : Int))) rfl (by kernel_rfl) (by kernel_rfl) (by kernel_rfl) (fun _ _ _ h => h) (Or.inl ⟨by rfl, ?_⟩) hHeld ?_
          · intro w' hSw; go_simp
          try simp only [Act.put, List.getElem_toArray, List.getElem_cons_succ, List.getElem_cons_zero, List.setIfInBounds_toArray, List.set_cons_zero, List.set_cons_succ]
          refine wpAnyH_take (i := 8) (v := .pointer (some ⟨b4, o4 + i, none⟩)) rfl (by kernel_rfl) (by kernel_rfl) (by kernel_rfl) (fun _ _ _ h => h) (Or.inl ⟨by rfl, ?_⟩) hHeld ?_
          · intro w' hSw; go_simp
          try simp only [Act.put, List.getElem_toArray, List.getElem_cons_succ, List.getElem_cons_zero, List.setIfInBounds_toArray, List.set_cons_zero, List.set_cons_succ]
          refine wpAnyH_take (i := 9) (v := .slice p2 x.length c2) rfl (by kernel_rfl) (by kernel_rfl) (by kernel_rfl) (fun _ _ _ h => h) (Or.inl ⟨by rfl, ?_⟩) hHeld ?_
          · intro w' hSw; have kx := G2.out w' hSw.below; go_simp
          try simp only [Act.put, List.getElem_toArray, List.getElem_cons_succ, List.getElem_cons_zero, List.setIfInBounds_toArray, List.set_cons_zero, List.set_cons_succ]
          refine wpAnyH_take (i := 10) (v := .slice aa at'.length ca) rfl (by kernel_rfl) (by kernel_rfl) (by kernel_rfl) (fun _ _ _ h => h) (Or.inl ⟨by rfl, ?_⟩) hHeld ?_
          · intro w' hSw; have kx := ((F2.out.below hSw.below (by omega)).cells).c1; go_simp
          try simp only [Act.put, List.getElem_toArray, List.getElem_cons_succ, List.getElem_cons_zero, List.setIfInBounds_toArray, List.set_cons_zero, List.set_cons_succ]
          refine wpAnyH_take (i := 12) (v := .slice (some ⟨b4, o4, none⟩) l'.length k1) rfl (by kernel_rfl) (by kernel_rfl) (by kernel_rfl) (fun _ _ _ h => h) (Or.inl ⟨by rfl, ?_⟩) hHeld ?_
          · intro w' hSw; go_simp
          try simp only [Act.put, List.getElem_toArray, List.getElem_cons_succ, List.getElem_cons_zero, List.setIfInBounds_toArray, List.set_cons_zero, List.set_cons_succ]
          refine wpAnyH_take (i := 13) (v := .int .i64 ((i : Int))) rfl (by kernel_rfl) (by kernel_rfl) (by kernel_rfl) (fun _ _ _ h => h) (Or.inl ⟨by rfl, ?_⟩) hHeld ?_
          · intro w' hSw; go_simp
          try simp only [Act.put, List.getElem_toArray, List.getElem_cons_succ, List.getElem_cons_zero, List.setIfInBounds_toArray, List.set_cons_zero, List.set_cons_succ]
          refine wpAnyH_take (i := 14) (v := .int .i64 ((j : Int))) rfl (by kernel_rfl) (by kernel_rfl) (by kernel_rfl) (fun _ _ _ h => h) (Or.inl ⟨by rfl, ?_⟩) hHeld ?_
          · intro w' hSw; go_simp
          try simp only [Act.put, List.getElem_toArray, List.getElem_cons_succ, List.getElem_cons_zero, List.setIfInBounds_toArray, List.set_cons_zero, List.set_cons_succ]
          refine wpAnyH_take (i := 15) (v := .pointer (some ⟨b4, o4 + j, none⟩)) rfl (by kernel_rfl) (by kernel_rfl) (by kernel_rfl) (fun _ _ _ h => h) (Or.inl ⟨by rfl, ?_⟩) hHeld ?_
          · intro w' hSw; go_simp
          try simp only [Act.put, List.getElem_toArray, List.getElem_cons_succ, List.getElem_cons_zero, List.setIfInBounds_toArray, List.set_cons_zero, List.set_cons_succ]
          refine wpAnyH_take (i := 16) (v := .slice p3 y.length c3) rfl (by kernel_rfl) (by kernel_rfl) (by kernel_rfl) (fun _ _ _ h => h) (Or.inl ⟨by rfl, ?_⟩) hHeld ?_
          · intro w' hSw; have kx := G3.out w' hSw.below; go_simp
          try simp only [Act.put, List.getElem_toArray, List.getElem_cons_succ, List.getElem_cons_zero, List.setIfInBounds_toArray, List.set_cons_zero, List.set_cons_succ]
          refine wpAnyH_take (i := 17) (v := .slice aa at'.length ca) rfl (by kernel_rfl) (by kernel_rfl) (by kernel_rfl) (fun _ _ _ h => h) (Or.inl ⟨by rfl, ?_⟩) hHeld ?_
          · intro w' hSw; have kx := ((F2.out.below hSw.below (by omega)).cells).c1; go_simp
          try simp only [Act.put, List.getElem_toArray, List.getElem_cons_succ, List.getElem_cons_zero, List.setIfInBounds_toArray, List.set_cons_zero, List.set_cons_succ]
          refine wpAnyH_ready (rs := [11]) (by kernel_rfl) (by simp) ?_
          refine allCall (f := 54) (args := #[.slice p2 x.length c2, .slice aa at'.length ca]) rfl (by kernel_rfl) (by kernel_rfl) ?_ AllReadyH.nil
          refine key_any 0 wo.heap.size la ha x at' _ _ wo.drew (Sl.below R2.out Row1.loc ((Below.refl _ _).drew) (Nat.le_refl _)) (Nat.le_refl _) (Sl.below F3.out Ints.loc ((Below.refl wo.heap.size wo).drew) (by omega)) (by show ha ≤ wo.heap.size; omega) Hkx.out hal _ (fun w1 v1 hg1 ho1 => ?_)
          obtain ⟨p5, c5, rfl⟩ := Own.slice ho1
          have hG1 : Gw wo w1 := ((Gw.refl _).drew).trans hg1
          have HG1 := Lib.hid hG1
          have HO1 : Hid (OwnV wo.heap.size w1 _ _) := Lib.hid ho1
          refine ⟨_, rfl, hG1, ?_⟩
          clear hHeld
          have hHeld := hG1
          clear ho1 hg1 hG1
          try simp only [Act.put, List.getElem_toArray, List.getElem_cons_succ, List.getElem_cons_zero, List.setIfInBounds_toArray, List.set_cons_zero, List.set_cons_succ]
          refine wpAnyH_ready (rs := [18]) (by kernel_rfl) (by simp) ?_
          refine allCall (f := 54) (args := #[.slice p3 y.length c3, .slice aa at'.length ca]) rfl (by kernel_rfl) (by kernel_rfl) ?_ AllReadyH.nil
          refine key_any 0 wo.heap.size la ha y at' _ _ w1 (Sl.below R3.out Row1.loc HG1.out.below (Nat.le_refl _)) HG1.out.size (Sl.below F3.out Ints.loc HG1.out.below (by omega)) (by have := HG1.out.size; omega) Hky.out hal _ (fun w2 v2 hg2' ho2 => ?_)
          obtain ⟨p6, c6, rfl⟩ := Own.slice ho2
          have hG2 : Gw wo w2 := HG1.out.trans hg2'
          have HG2' := Lib.hid hG2
          have HG12 := Lib.hid hg2'
          have HO2 : Hid (OwnV w1.heap.size w2 _ _) := Lib.hid ho2
          refine ⟨_, rfl, hG2, ?_⟩
          clear hHeld
          have hHeld := hG2
          clear ho2 hg2' hG2
          try simp only [Act.put, List.getElem_toArray, List.getElem_cons_succ, List.getElem_cons_zero, List.setIfInBounds_toArray, List.set_cons_zero, List.set_cons_succ]
          refine wpAnyH_ready (rs := [19]) (by kernel_rfl) (by simp) ?_
          refine allCall (f := 9) (args := #[.slice p5 (pickL x at').length c5, .slice p6 (pickL y at').length c6]) rfl (by kernel_rfl) (by kernel_rfl) ?_ AllReadyH.nil
          refine rowsCompare_any _ _ _ _ (pickL x at') (pickL y at') _ _ w2 (OwnV.sl (Own.kept HO1.out HG12.out.below)) (OwnV.sl HO2.out) (Nat.le_refl _) (Nat.le_refl _) _ (fun w6 hg6 => ?_)
          have hG6 : Gw wo w6 := HG2'.out.trans hg6
          have HG6 := Lib.hid hG6
          refine ⟨_, rfl, hG6, ?_⟩
          clear hHeld
          have hHeld := hG6
          clear hg6 hG6 HG1 HG2' HG12 HO1 HO2
          have hc0 := HC.out
          generalize cmpR (pickL x at') (pickL y at') = cv at hc0 ⊢
          try simp only [Act.put, List.getElem_toArray, List.getElem_cons_succ, List.getElem_cons_zero, List.setIfInBounds_toArray, List.set_cons_zero, List.set_cons_succ]
          refine wpAnyH_take (i := 20) (v := .bool false) rfl (by kernel_rfl) (by kernel_rfl) (by kernel_rfl) (fun _ _ _ h => h) (Or.inl ⟨by rfl, ?_⟩) hHeld ?_
          · intro w' hSw; go_simp
          try simp only [Act.put, List.getElem_toArray, List.getElem_cons_succ, List.getElem_cons_zero, List.setIfInBounds_toArray, List.set_cons_zero, List.set_cons_succ]
          refine wpAnyH_take (i := 21) (v := .bool false) rfl (by kernel_rfl) (by kernel_rfl) (by kernel_rfl) (fun _ _ _ h => h) (Or.inl ⟨by rfl, ?_⟩) hHeld ?_
          · intro w' hSw; go_simp
          try simp only [Act.put, List.getElem_toArray, List.getElem_cons_succ, List.getElem_cons_zero, List.setIfInBounds_toArray, List.set_cons_zero, List.set_cons_succ]
          refine wpAnyH_done (by kernel_rfl) ?_ _
          clear hHeld
          clear hc0
          gi_wp2_with fail
          obtain ⟨hkG, hfi, hje, hmid, hgrp⟩ := HM.out.cut HS.out hlt HC2.out
          have hkT : k < (keysL (fun x => pickL x at') l).length := by rw [← HT.out]; exact hkG
          have Hkx2 := Lib.hid (hgrp hkG)
          have Hperm := Lib.hid (runsK_perm (fun x => pickL x at') HS.out HP.out k hkG hkT)
          have Hmid := Lib.hid hmid
          have Hje := Lib.hid (Hj.out.trans hje)
          have hz6 := HG6.out.size
          have HJ6 := Lib.hid (HJB.out _ _ _ _ HJ.out HG6.out.below)
          have RR6 : Hid (Rws 0 w6.heap.size w6 _ l') := Lib.hid (Sl.mono (Sl.below RR.out rowE_loc HG6.out.below (Nat.le_refl _)) rowE_loc (Nat.le_refl _) hz6)
          have hfj : fr < j := by rw [Hfr.out, Hj.out]; exact hfi
          have hjl : j ≤ l'.length := by rw [Hj.out]; omega
          obtain ⟨vg, hvg, hrg⟩ := Sl.within RR6.out 23 Tryz.underlying23 size_RowH fr j hfj hjl
          rw [show (l'.drop fr).take (j - fr) = (runsK (fun x => pickL x at') l')[k] by rw [Hfr.out, Hj.out]; exact Hkx2.out.1] at hrg
          have Hrg := Lib.hid hrg
          obtain ⟨gp, gc, rfl, -, -, -, -⟩ := hrg.form
          clear hrg hgrp hmid hje hfi
          have fr0 : (0 : Int) ≤ (fr : Int) := by omega
          have frj : (fr : Int) ≤ (j : Int) := by omega
          gi_wp2_with fail
          refine wpIn_region_any (by kernel_rfl) ?_
          change wpAnyIn _ _ _ _ _ _ _ _ _ w6.drew
          refine wpAnyIn_take (i := 0) (v := .func (.yield L) #[] #[]) rfl rfl (by kernel_rfl) (by kernel_rfl) (by kernel_rfl) (fun _ _ _ h => h) ⟨Or.inl ⟨by rfl, fun w => by go_simp⟩, fun w => rfl⟩ ?_
          try simp only [Act.put, List.getElem_toArray, List.getElem_cons_succ, List.getElem_cons_zero, List.setIfInBounds_toArray, List.set_cons_zero, List.set_cons_succ]
          refine wpAnyIn_take (i := 1) (v := .slice (some ⟨b4, o4, none⟩) l'.length k1) rfl rfl (by kernel_rfl) (by kernel_rfl) (by kernel_rfl) (fun _ _ _ h => h) ⟨Or.inl ⟨by rfl, fun w => by go_simp⟩, fun w => rfl⟩ ?_
          try simp only [Act.put, List.getElem_toArray, List.getElem_cons_succ, List.getElem_cons_zero, List.setIfInBounds_toArray, List.set_cons_zero, List.set_cons_succ]
          refine wpAnyIn_take (i := 2) (v := .int .i64 (i : Int)) rfl rfl (by kernel_rfl) (by kernel_rfl) (by kernel_rfl) (fun _ _ _ h => h) ⟨Or.inl ⟨by rfl, fun w => by go_simp⟩, fun w => rfl⟩ ?_
          try simp only [Act.put, List.getElem_toArray, List.getElem_cons_succ, List.getElem_cons_zero, List.setIfInBounds_toArray, List.set_cons_zero, List.set_cons_succ]
          refine wpAnyIn_take (i := 3) (v := .pointer (some ⟨b4, o4 + i, none⟩)) rfl rfl (by kernel_rfl) (by kernel_rfl) (by kernel_rfl) (fun _ _ _ h => h) ⟨Or.inl ⟨by rfl, fun w => by go_simp⟩, fun w => rfl⟩ ?_
          try simp only [Act.put, List.getElem_toArray, List.getElem_cons_succ, List.getElem_cons_zero, List.setIfInBounds_toArray, List.set_cons_zero, List.set_cons_succ]
          refine wpAnyIn_take (i := 7) (v := .slice (some ⟨b4, o4, none⟩) l'.length k1) rfl rfl (by kernel_rfl) (by kernel_rfl) (by kernel_rfl) (fun _ _ _ h => h) ⟨Or.inl ⟨by rfl, fun w => by go_simp⟩, fun w => rfl⟩ ?_
          try simp only [Act.put, List.getElem_toArray, List.getElem_cons_succ, List.getElem_cons_zero, List.setIfInBounds_toArray, List.set_cons_zero, List.set_cons_succ]
          refine wpAnyIn_take (i := 8) (v := .int .i64 fr) rfl rfl (by kernel_rfl) (by kernel_rfl) (by kernel_rfl) (fun _ _ _ h => h) ⟨Or.inl ⟨by rfl, fun w => by go_simp⟩, fun w => rfl⟩ ?_
          try simp only [Act.put, List.getElem_toArray, List.getElem_cons_succ, List.getElem_cons_zero, List.setIfInBounds_toArray, List.set_cons_zero, List.set_cons_succ]
          refine wpAnyIn_take (i := 9) (v := .int .i64 (i : Int)) rfl rfl (by kernel_rfl) (by kernel_rfl) (by kernel_rfl) (fun _ _ _ h => h) ⟨Or.inl ⟨by rfl, fun w => by go_simp⟩, fun w => rfl⟩ ?_
          try simp only [Act.put, List.getElem_toArray, List.getElem_cons_succ, List.getElem_cons_zero, List.setIfInBounds_toArray, List.set_cons_zero, List.set_cons_succ]
          refine wpAnyIn_take (i := 10) (v := .int .i64 (j : Int)) rfl rfl (by kernel_rfl) (by kernel_rfl) (by kernel_rfl) (fun _ _ _ h => h) ⟨Or.inl ⟨by rfl, fun w => by go_simp⟩, fun w => rfl⟩ ?_
          try simp only [Act.put, List.getElem_toArray, List.getElem_cons_succ, List.getElem_cons_zero, List.setIfInBounds_toArray, List.set_cons_zero, List.set_cons_succ]
          refine wpAnyIn_take (i := 11) (v := .slice gp (runsK (fun x => pickL x at') l')[k].length gc) rfl rfl (by kernel_rfl) (by kernel_rfl) (by kernel_rfl) (fun _ _ _ h => h) ⟨Or.inl ⟨by rfl, fun w => by go_simp⟩, fun w => rfl⟩ ?_
          try simp only [Act.put, List.getElem_toArray, List.getElem_cons_succ, List.getElem_cons_zero, List.setIfInBounds_toArray, List.set_cons_zero, List.set_cons_succ]
          refine wpAnyIn_ready (rs := [4, 5]) (by kernel_rfl) (by simp) ?_
          refine allIn rfl (by kernel_rfl) (fun K hK => opValIn (v := .slice p2 x.length c2) (w' := w6.drew) (by have kx := G2.out w6.drew (HG6.out.drew.below); go_simp) (hK _ _ ?_)) ?_
          · try simp only [Act.put, List.getElem_toArray, List.getElem_cons_succ, List.getElem_cons_zero, List.setIfInBounds_toArray, List.set_cons_zero, List.set_cons_succ]
            refine wpAnyIn_ready (rs := [5]) (by kernel_rfl) (by simp) ?_
            refine allIn rfl (by kernel_rfl) (fun K hK => opValIn (v := .slice aa at'.length ca) (w' := w6.drew) (by have kx := ((F2.out.below HG6.out.drew.below (by omega)).cells).c1; go_simp) (hK _ _ ?_)) AllReadyIn.nil
            try simp only [Act.put, List.getElem_toArray, List.getElem_cons_succ, List.getElem_cons_zero, List.setIfInBounds_toArray, List.set_cons_zero, List.set_cons_succ]
            refine wpAnyIn_ready (rs := [6]) (by kernel_rfl) (by simp) ?_
            refine allIn rfl (by kernel_rfl) (fun K hK => opCallIn (f := 54) (args := #[.slice p2 x.length c2, .slice aa at'.length ca]) (by kernel_rfl) (key_any 0 wo.heap.size la ha x at' _ _ w6.drew (Sl.below R2.out Row1.loc HG6.out.drew.below (Nat.le_refl _)) HG6.out.drew.size (Sl.below F3.out Ints.loc HG6.out.drew.below (by omega)) (by show ha ≤ w6.heap.size; omega) Hkx.out hal _ (fun wk vk hgk hok => ?_))) AllReadyIn.nil
            obtain ⟨pk, ck, rfl⟩ := Own.slice hok
            refine ⟨_, rfl, hK _ _ ?_⟩
            clear hK
            have HGk : Hid (Gw w6 wk) := Lib.hid ((Gw.refl w6).drew.trans hgk)
            have hkk : pickL x at' = (keysL (fun x => pickL x at') l)[k] := by rw [← Hperm.out.1, Hx.out]; exact Hkx2.out.2
            have hok2 : OwnV w6.heap.size wk _ _ := hok
            rw [hkk] at hok2
            rw [hkk]
            have Hok2 := Lib.hid hok2
            clear hok2 hok hgk
            try simp only [Act.put, List.getElem_toArray, List.getElem_cons_succ, List.getElem_cons_zero, List.setIfInBounds_toArray, List.set_cons_zero, List.set_cons_succ]
            have hzk := HGk.out.size
            have HRk : Hid (Rws 0 w6.heap.size wk _ _) := Lib.hid (Sl.below Hrg.out rowE_loc HGk.out.below (Nat.le_refl _))
            obtain ⟨yf, yt, ya, yb, hy, hRy⟩ := HY.out k g w6 wk pk ck gp gc _ HJ6.out HGk.out.below (by omega) hkT Hok2.out HRk.out Hperm.out.2
            refine wpAnyIn_ready (rs := [12]) (by kernel_rfl) (by simp) ?_
            refine allIn rfl (by kernel_rfl) (fun K hK => opYieldIn (l := L) (fn := yf) (tmps := yt) (assign := ya) (body := yb) (m := m) rfl (by go_simp) hRy (fun e w' he => ?_)) AllReadyIn.nil
            clear hy hRy
            rcases he with ⟨rfl, hj2, hg2⟩ | ⟨rfl, hz2⟩
            · refine ⟨_, rfl, hK _ _ ?_⟩
              have HJ2 := Lib.hid hj2
              have Hg2 := Lib.hid hg2
              clear hj2 hK hg2
              try simp only [Act.put, List.getElem_toArray, List.getElem_cons_succ, List.getElem_cons_zero, List.setIfInBounds_toArray, List.set_cons_zero, List.set_cons_succ]
              refine wpAnyIn_take (i := 13) (v := .bool false) rfl rfl (by kernel_rfl) (by kernel_rfl) (by kernel_rfl) (fun _ _ _ h => h) ⟨Or.inl ⟨by rfl, fun w => by go_simp⟩, fun w => rfl⟩ ?_
              try simp only [Act.put, List.getElem_toArray, List.getElem_cons_succ, List.getElem_cons_zero, List.setIfInBounds_toArray, List.set_cons_zero, List.set_cons_succ]
              refine wpAnyIn_done (by kernel_rfl) ?_ _
              have HLs2 : Hid (LS W0.heap.size a b w' (.slice (some ⟨b4, o4, none⟩) l'.length k1) l') := Lib.hid (by
                have hBk := HG6.out.below.trans (HGk.out.below.mono hz6)
                have h1 := LS.same HLs.out (w' := wk) (fun g' e => hBk.block g' (LS.lt HLs.out g' e).2) (.below hBk (by omega))
                refine LS.same h1 (w' := w') (fun g' e => by rw [HG2.out g' e]; exact Hg2.out) ?_
                obtain ⟨q1, -⟩ := HJF.out _ _ _ (HJB.out _ _ _ _ HJ6.out HGk.out.below)
                obtain ⟨q2, -⟩ := HJF.out _ _ _ HJ2.out
                exact fun k h1 h2 => (q2 k h1 h2).trans (q1 k h1 h2).symm)
              gi_wp2_with fail
              go_roundw
              case rel => exact ⟨k + 1, j, j, rfl, by first | rfl | go_num, by omega, Hje, Lib.hid (by rw [Hj.out]; exact Hmid.out), HLs2, HJ2⟩
              case measure => have := Hj.out; simp [intOf]; omega
            · refine ⟨_, rfl, hK _ _ ?_⟩
              have HZ2 := Lib.hid hz2
              clear hz2 hK
              try simp only [Act.put, List.getElem_toArray, List.getElem_cons_succ, List.getElem_cons_zero, List.setIfInBounds_toArray, List.set_cons_zero, List.set_cons_succ]
              refine wpAnyIn_take (i := 13) (v := .bool true) rfl rfl (by kernel_rfl) (by kernel_rfl) (by kernel_rfl) (fun _ _ _ h => h) ⟨Or.inl ⟨by rfl, fun w => by go_simp⟩, fun w => rfl⟩ ?_
              try simp only [Act.put, List.getElem_toArray, List.getElem_cons_succ, List.getElem_cons_zero, List.setIfInBounds_toArray, List.set_cons_zero, List.set_cons_succ]
              refine wpAnyIn_done (by kernel_rfl) ?_ _
              gi_wp2_with fail
              simp only [Exit.noGoto]
              exact bodyPost_ret (results_none rfl _ _ _) rfl ⟨⟨_, rfl⟩, .inr HZ2.out⟩
          refine allIn rfl (by kernel_rfl) (fun K hK => opValIn (v := .slice aa at'.length ca) (w' := w6.drew) (by have kx := ((F2.out.below HG6.out.drew.below (by omega)).cells).c1; go_simp) (hK _ _ ?_)) AllReadyIn.nil
          try simp only [Act.put, List.getElem_toArray, List.getElem_cons_succ, List.getElem_cons_zero, List.setIfInBounds_toArray, List.set_cons_zero, List.set_cons_succ]
          refine wpAnyIn_ready (rs := [4]) (by kernel_rfl) (by simp) ?_
          refine allIn rfl (by kernel_rfl) (fun K hK => opValIn (v := .slice p2 x.length c2) (w' := w6.drew) (by have kx := G2.out w6.drew (HG6.out.drew.below); go_simp) (hK _ _ ?_)) AllReadyIn.nil
          try simp only [Act.put, List.getElem_toArray, List.getElem_cons_succ, List.getElem_cons_zero, List.setIfInBounds_toArray, List.set_cons_zero, List.set_cons_succ]
          refine wpAnyIn_ready (rs := [6]) (by kernel_rfl) (by simp) ?_
          refine allIn rfl (by kernel_rfl) (fun K hK => opCallIn (f := 54) (args := #[.slice p2 x.length c2, .slice aa at'.length ca]) (by kernel_rfl) (key_any 0 wo.heap.size la ha x at' _ _ w6.drew (Sl.below R2.out Row1.loc HG6.out.drew.below (Nat.le_refl _)) HG6.out.drew.size (Sl.below F3.out Ints.loc HG6.out.drew.below (by omega)) (by show ha ≤ w6.heap.size; omega) Hkx.out hal _ (fun wk vk hgk hok => ?_))) AllReadyIn.nil
          obtain ⟨pk, ck, rfl⟩ := Own.slice hok
          refine ⟨_, rfl, hK _ _ ?_⟩
          clear hK
          have HGk : Hid (Gw w6 wk) := Lib.hid ((Gw.refl w6).drew.trans hgk)
          have hkk : pickL x at' = (keysL (fun x => pickL x at') l)[k] := by rw [← Hperm.out.1, Hx.out]; exact Hkx2.out.2
          have hok2 : OwnV w6.heap.size wk _ _ := hok
          rw [hkk] at hok2
          rw [hkk]
          have Hok2 := Lib.hid hok2
          clear hok2 hok hgk
          try simp only [Act.put, List.getElem_toArray, List.getElem_cons_succ, List.getElem_cons_zero, List.setIfInBounds_toArray, List.set_cons_zero, List.set_cons_succ]
          have hzk := HGk.out.size
          have HRk : Hid (Rws 0 w6.heap.size wk _ _) := Lib.hid (Sl.below Hrg.out rowE_loc HGk.out.below (Nat.le_refl _))
          obtain ⟨yf, yt, ya, yb, hy, hRy⟩ := HY.out k g w6 wk pk ck gp gc _ HJ6.out HGk.out.below (by omega) hkT Hok2.out HRk.out Hperm.out.2
          refine wpAnyIn_ready (rs := [12]) (by kernel_rfl) (by simp) ?_
          refine allIn rfl (by kernel_rfl) (fun K hK => opYieldIn (l := L) (fn := yf) (tmps := yt) (assign := ya) (body := yb) (m := m) rfl (by go_simp) hRy (fun e w' he => ?_)) AllReadyIn.nil
          clear hy hRy
          rcases he with ⟨rfl, hj2, hg2⟩ | ⟨rfl, hz2⟩
          · refine ⟨_, rfl, hK _ _ ?_⟩
            have HJ2 := Lib.hid hj2
            have Hg2 := Lib.hid hg2
            clear hj2 hK hg2
            try simp only [Act.put, List.getElem_toArray, List.getElem_cons_succ, List.getElem_cons_zero, List.setIfInBounds_toArray, List.set_cons_zero, List.set_cons_succ]
            refine wpAnyIn_take (i := 13) (v := .bool false) rfl rfl (by kernel_rfl) (by kernel_rfl) (by kernel_rfl) (fun _ _ _ h => h) ⟨Or.inl ⟨by rfl, fun w => by go_simp⟩, fun w => rfl⟩ ?_
            try simp only [Act.put, List.getElem_toArray, List.getElem_cons_succ, List.getElem_cons_zero, List.setIfInBounds_toArray, List.set_cons_zero, List.set_cons_succ]
            refine wpAnyIn_done (by kernel_rfl) ?_ _
            have HLs2 : Hid (LS W0.heap.size a b w' (.slice (some ⟨b4, o4, none⟩) l'.length k1) l') := Lib.hid (by
              have hBk := HG6.out.below.trans (HGk.out.below.mono hz6)
              have h1 := LS.same HLs.out (w' := wk) (fun g' e => hBk.block g' (LS.lt HLs.out g' e).2) (.below hBk (by omega))
              refine LS.same h1 (w' := w') (fun g' e => by rw [HG2.out g' e]; exact Hg2.out) ?_
              obtain ⟨q1, -⟩ := HJF.out _ _ _ (HJB.out _ _ _ _ HJ6.out HGk.out.below)
              obtain ⟨q2, -⟩ := HJF.out _ _ _ HJ2.out
              exact fun k h1 h2 => (q2 k h1 h2).trans (q1 k h1 h2).symm)
            gi_wp2_with fail
            go_roundw
            case rel => exact ⟨k + 1, j, j, rfl, by first | rfl | go_num, by omega, Hje, Lib.hid (by rw [Hj.out]; exact Hmid.out), HLs2, HJ2⟩
            case measure => have := Hj.out; simp [intOf]; omega
          · refine ⟨_, rfl, hK _ _ ?_⟩
            have HZ2 := Lib.hid hz2
            clear hz2 hK
            try simp only [Act.put, List.getElem_toArray, List.getElem_cons_succ, List.getElem_cons_zero, List.setIfInBounds_toArray, List.set_cons_zero, List.set_cons_succ]
            refine wpAnyIn_take (i := 13) (v := .bool true) rfl rfl (by kernel_rfl) (by kernel_rfl) (by kernel_rfl) (fun _ _ _ h => h) ⟨Or.inl ⟨by rfl, fun w => by go_simp⟩, fun w => rfl⟩ ?_
            try simp only [Act.put, List.getElem_toArray, List.getElem_cons_succ, List.getElem_cons_zero, List.setIfInBounds_toArray, List.set_cons_zero, List.set_cons_succ]
            refine wpAnyIn_done (by kernel_rfl) ?_ _
            gi_wp2_with fail
            simp only [Exit.noGoto]
            exact bodyPost_ret (results_none rfl _ _ _) rfl ⟨⟨_, rfl⟩, .inr HZ2.out⟩
      · have jjl : ¬ (j : Int) < (l'.length : Int) := by omega
        have HC2 : Hid (∀ h : i + 1 < l'.length, cmpR ((fun x => pickL x at') l'[i]) ((fun x => pickL x at') l'[i + 1]) ≠ 0) := Lib.hid (fun h => absurd h (by have := Hj.out; omega))
        refine wpIn_wide.2 ?_
        refine wp_region_held_drew (S := fun w' => Gw wo w') (by kernel_rfl) ((Gw.refl _).drew) (fun hHeld => ?_)
        refine wpAnyH_take (i := 0) (v := .int .i64 ((i : Int))) rfl (by kernel_rfl) (by kernel_rfl) (by kernel_rfl) (fun _ _ _ h => h) (Or.inl ⟨by rfl, ?_⟩) hHeld ?_
        · intro w' hSw; go_simp
        try simp only [Act.put, List.getElem_toArray, List.getElem_cons_succ, List.getElem_cons_zero, List.setIfInBounds_toArray, List.set_cons_zero, List.set_cons_succ]
        refine wpAnyH_take (i := 1) (v := .int .i64 ((j : Int))) rfl (by kernel_rfl) (by kernel_rfl) (by kernel_rfl) (fun _ _ _ h => h) (Or.inl ⟨by rfl, ?_⟩) hHeld ?_
        · intro w' hSw; go_simp
        try simp only [Act.put, List.getElem_toArray, List.getElem_cons_succ, List.getElem_cons_zero, List.setIfInBounds_toArray, List.set_cons_zero, List.set_cons_succ]
        refine wpAnyH_take (i := 2) (v := .slice (some ⟨b4, o4, none⟩) l'.length k1) rfl (by kernel_rfl) (by kernel_rfl) (by kernel_rfl) (fun _ _ _ h => h) (Or.inl ⟨by rfl, ?_⟩) hHeld ?_
        · intro w' hSw; go_simp
        try simp only [Act.put, List.getElem_toArray, List.getElem_cons_succ, List.getElem_cons_zero, List.setIfInBounds_toArray, List.set_cons_zero, List.set_cons_succ]
        refine wpAnyH_take (i := 3) (v := .int .i64 ((l'.length : Int))) rfl (by kernel_rfl) (by kernel_rfl) (by kernel_rfl) (fun _ _ _ h => h) (Or.inl ⟨by rfl, ?_⟩) hHeld ?_
        · intro w' hSw; go_simp
        try simp only [Act.put, List.getElem_toArray, List.getElem_cons_succ, List.getElem_cons_zero, List.setIfInBounds_toArray, List.set_cons_zero, List.set_cons_succ]
        refine wpAnyH_take (i := 4) (v := .bool false) rfl (by kernel_rfl) (by kernel_rfl) (by kernel_rfl) (fun _ _ _ h => h) (Or.inl ⟨by rfl, ?_⟩) hHeld ?_
        · intro w' hSw; go_simp
        try simp only [Act.put, List.getElem_toArray, List.getElem_cons_succ, List.getElem_cons_zero, List.setIfInBounds_toArray, List.set_cons_zero, List.set_cons_succ]
        refine wpAnyH_take (i := 5) (v := .bool false) rfl (by kernel_rfl) (by kernel_rfl) (by kernel_rfl) (fun _ _ _ h => h) (Or.inl ⟨by rfl, ?_⟩) hHeld ?_
        · intro w' hSw; go_simp
        try simp only [Act.put, List.getElem_toArray, List.getElem_cons_succ, List.getElem_cons_zero, List.setIfInBounds_toArray, List.set_cons_zero, List.set_cons_succ]
        refine wpAnyH_take (i := 6) (v := undef) rfl (by kernel_rfl) (by kernel_rfl) (by kernel_rfl) (fun _ _ _ h => h) (Or.inr ⟨by kernel_rfl, rfl⟩) hHeld ?_
        try simp only [Act.put, List.getElem_toArray, List.getElem_cons_succ, List.getElem_cons_zero, List.setIfInBounds_toArray, List.set_cons_zero, List.set_cons_succ]
        refine wpAnyH_take (i := 7) (v := undef) rfl (by kernel_rfl) (by kernel_rfl) (by kernel_rfl) (fun _ _ _ h => h) (Or.inr ⟨by kernel_rfl, rfl⟩) hHeld ?_
        try simp only [Act.put, List.getElem_toArray, List.getElem_cons_succ, List.getElem_cons_zero, List.setIfInBounds_toArray, List.set_cons_zero, List.set_cons_succ]
        refine wpAnyH_take (i := 8) (v := undef) rfl (by kernel_rfl) (by kernel_rfl) (by kernel_rfl) (fun _ _ _ h => h) (Or.inr ⟨by kernel_rfl, rfl⟩) hHeld ?_
        try simp only [Act.put, List.getElem_toArray, List.getElem_cons_succ, List.getElem_cons_zero, List.setIfInBounds_toArray, List.set_cons_zero, List.set_cons_succ]
        refine wpAnyH_take (i := 9) (v := undef) rfl (by kernel_rfl) (by kernel_rfl) (by kernel_rfl) (fun _ _ _ h => h) (Or.inr ⟨by kernel_rfl, rfl⟩) hHeld ?_
        try simp only [Act.put, List.getElem_toArray, List.getElem_cons_succ, List.getElem_cons_zero, List.setIfInBounds_toArray, List.set_cons_zero, List.set_cons_succ]
        refine wpAnyH_take (i := 10) (v := undef) rfl (by kernel_rfl) (by kernel_rfl) (by kernel_rfl) (fun _ _ _ h => h) (Or.inr ⟨by kernel_rfl, rfl⟩) hHeld ?_
        try simp only [Act.put, List.getElem_toArray, List.getElem_cons_succ, List.getElem_cons_zero, List.setIfInBounds_toArray, List.set_cons_zero, List.set_cons_succ]
        refine wpAnyH_take (i := 11) (v := undef) rfl (by kernel_rfl) (by kernel_rfl) (by kernel_rfl) (fun _ _ _ h => h) (Or.inr ⟨by kernel_rfl, rfl⟩) hHeld ?_
        try simp only [Act.put, List.getElem_toArray, List.getElem_cons_succ, List.getElem_cons_zero, List.setIfInBounds_toArray, List.set_cons_zero, List.set_cons_succ]
        refine wpAnyH_take (i := 12) (v := undef) rfl (by kernel_rfl) (by kernel_rfl) (by kernel_rfl) (fun _ _ _ h => h) (Or.inr ⟨by kernel_rfl, rfl⟩) hHeld ?_
        try simp only [Act.put, List.getElem_toArray, List.getElem_cons_succ, List.getElem_cons_zero, List.setIfInBounds_toArray, List.set_cons_zero, List.set_cons_succ]
        refine wpAnyH_take (i := 13) (v := undef) rfl (by kernel_rfl) (by kernel_rfl) (by kernel_rfl) (fun _ _ _ h => h) (Or.inr ⟨by kernel_rfl, rfl⟩) hHeld ?_
        try simp only [Act.put, List.getElem_toArray, List.getElem_cons_succ, List.getElem_cons_zero, List.setIfInBounds_toArray, List.set_cons_zero, List.set_cons_succ]
        refine wpAnyH_take (i := 14) (v := undef) rfl (by kernel_rfl) (by kernel_rfl) (by kernel_rfl) (fun _ _ _ h => h) (Or.inr ⟨by kernel_rfl, rfl⟩) hHeld ?_
        try simp only [Act.put, List.getElem_toArray, List.getElem_cons_succ, List.getElem_cons_zero, List.setIfInBounds_toArray, List.set_cons_zero, List.set_cons_succ]
        refine wpAnyH_take (i := 15) (v := undef) rfl (by kernel_rfl) (by kernel_rfl) (by kernel_rfl) (fun _ _ _ h => h) (Or.inr ⟨by kernel_rfl, rfl⟩) hHeld ?_
        try simp only [Act.put, List.getElem_toArray, List.getElem_cons_succ, List.getElem_cons_zero, List.setIfInBounds_toArray, List.set_cons_zero, List.set_cons_succ]
        refine wpAnyH_take (i := 16) (v := undef) rfl (by kernel_rfl) (by kernel_rfl) (by kernel_rfl) (fun _ _ _ h => h) (Or.inr ⟨by kernel_rfl, rfl⟩) hHeld ?_
        try simp only [Act.put, List.getElem_toArray, List.getElem_cons_succ, List.getElem_cons_zero, List.setIfInBounds_toArray, List.set_cons_zero, List.set_cons_succ]
        refine wpAnyH_take (i := 17) (v := undef) rfl (by kernel_rfl) (by kernel_rfl) (by kernel_rfl) (fun _ _ _ h => h) (Or.inr ⟨by kernel_rfl, rfl⟩) hHeld ?_
        try simp only [Act.put, List.getElem_toArray, List.getElem_cons_succ, List.getElem_cons_zero, List.setIfInBounds_toArray, List.set_cons_zero, List.set_cons_succ]
        refine wpAnyH_take (i := 18) (v := undef) rfl (by kernel_rfl) (by kernel_rfl) (by kernel_rfl) (fun _ _ _ h => h) (Or.inr ⟨by kernel_rfl, rfl⟩) hHeld ?_
        try simp only [Act.put, List.getElem_toArray, List.getElem_cons_succ, List.getElem_cons_zero, List.setIfInBounds_toArray, List.set_cons_zero, List.set_cons_succ]
        refine wpAnyH_take (i := 19) (v := undef) rfl (by kernel_rfl) (by kernel_rfl) (by kernel_rfl) (fun _ _ _ h => h) (Or.inr ⟨by kernel_rfl, rfl⟩) hHeld ?_
        try simp only [Act.put, List.getElem_toArray, List.getElem_cons_succ, List.getElem_cons_zero, List.setIfInBounds_toArray, List.set_cons_zero, List.set_cons_succ]
        refine wpAnyH_take (i := 20) (v := undef) rfl (by kernel_rfl) (by kernel_rfl) (by kernel_rfl) (fun _ _ _ h => h) (Or.inr ⟨by kernel_rfl, rfl⟩) hHeld ?_
        try simp only [Act.put, List.getElem_toArray, List.getElem_cons_succ, List.getElem_cons_zero, List.setIfInBounds_toArray, List.set_cons_zero, List.set_cons_succ]
        refine wpAnyH_take (i := 21) (v := .bool false) rfl (by kernel_rfl) (by kernel_rfl) (by kernel_rfl) (fun _ _ _ h => h) (Or.inl ⟨by rfl, ?_⟩) hHeld ?_
        · intro w' hSw; go_simp
        try simp only [Act.put, List.getElem_toArray, List.getElem_cons_succ, List.getElem_cons_zero, List.setIfInBounds_toArray, List.set_cons_zero, List.set_cons_succ]
        refine wpAnyH_done (by kernel_rfl) ?_ _
        clear hHeld
        obtain ⟨w6, ew6⟩ : ∃ x, x = wo.drew := ⟨_, rfl⟩
        have HG6 : Hid (Gw wo w6) := Lib.hid (by rw [ew6]; exact (Gw.refl _).drew)
        rw [← ew6]
        clear ew6
        gi_wp2_with fail
        obtain ⟨hkG, hfi, hje, hmid, hgrp⟩ := HM.out.cut HS.out hlt HC2.out
        have hkT : k < (keysL (fun x => pickL x at') l).length := by rw [← HT.out]; exact hkG
        have Hkx2 := Lib.hid (hgrp hkG)
        have Hperm := Lib.hid (runsK_perm (fun x => pickL x at') HS.out HP.out k hkG hkT)
        have Hmid := Lib.hid hmid
        have Hje := Lib.hid (Hj.out.trans hje)
        have hz6 := HG6.out.size
        have HJ6 := Lib.hid (HJB.out _ _ _ _ HJ.out HG6.out.below)
        have RR6 : Hid (Rws 0 w6.heap.size w6 _ l') := Lib.hid (Sl.mono (Sl.below RR.out rowE_loc HG6.out.below (Nat.le_refl _)) rowE_loc (Nat.le_refl _) hz6)
        have hfj : fr < j := by rw [Hfr.out, Hj.out]; exact hfi
        have hjl : j ≤ l'.length := by rw [Hj.out]; omega
        obtain ⟨vg, hvg, hrg⟩ := Sl.within RR6.out 23 Tryz.underlying23 size_RowH fr j hfj hjl
        rw [show (l'.drop fr).take (j - fr) = (runsK (fun x => pickL x at') l')[k] by rw [Hfr.out, Hj.out]; exact Hkx2.out.1] at hrg
        have Hrg := Lib.hid hrg
        obtain ⟨gp, gc, rfl, -, -, -, -⟩ := hrg.form
        clear hrg hgrp hmid hje hfi
        have fr0 : (0 : Int) ≤ (fr : Int) := by omega
        have frj : (fr : Int) ≤ (j : Int) := by omega
        gi_wp2_with fail
        refine wpIn_region_any (by kernel_rfl) ?_
        change wpAnyIn _ _ _ _ _ _ _ _ _ w6.drew
        refine wpAnyIn_take (i := 0) (v := .func (.yield L) #[] #[]) rfl rfl (by kernel_rfl) (by kernel_rfl) (by kernel_rfl) (fun _ _ _ h => h) ⟨Or.inl ⟨by rfl, fun w => by go_simp⟩, fun w => rfl⟩ ?_
        try simp only [Act.put, List.getElem_toArray, List.getElem_cons_succ, List.getElem_cons_zero, List.setIfInBounds_toArray, List.set_cons_zero, List.set_cons_succ]
        refine wpAnyIn_take (i := 1) (v := .slice (some ⟨b4, o4, none⟩) l'.length k1) rfl rfl (by kernel_rfl) (by kernel_rfl) (by kernel_rfl) (fun _ _ _ h => h) ⟨Or.inl ⟨by rfl, fun w => by go_simp⟩, fun w => rfl⟩ ?_
        try simp only [Act.put, List.getElem_toArray, List.getElem_cons_succ, List.getElem_cons_zero, List.setIfInBounds_toArray, List.set_cons_zero, List.set_cons_succ]
        refine wpAnyIn_take (i := 2) (v := .int .i64 (i : Int)) rfl rfl (by kernel_rfl) (by kernel_rfl) (by kernel_rfl) (fun _ _ _ h => h) ⟨Or.inl ⟨by rfl, fun w => by go_simp⟩, fun w => rfl⟩ ?_
        try simp only [Act.put, List.getElem_toArray, List.getElem_cons_succ, List.getElem_cons_zero, List.setIfInBounds_toArray, List.set_cons_zero, List.set_cons_succ]
        refine wpAnyIn_take (i := 3) (v := .pointer (some ⟨b4, o4 + i, none⟩)) rfl rfl (by kernel_rfl) (by kernel_rfl) (by kernel_rfl) (fun _ _ _ h => h) ⟨Or.inl ⟨by rfl, fun w => by go_simp⟩, fun w => rfl⟩ ?_
        try simp only [Act.put, List.getElem_toArray, List.getElem_cons_succ, List.getElem_cons_zero, List.setIfInBounds_toArray, List.set_cons_zero, List.set_cons_succ]
        refine wpAnyIn_take (i := 7) (v := .slice (some ⟨b4, o4, none⟩) l'.length k1) rfl rfl (by kernel_rfl) (by kernel_rfl) (by kernel_rfl) (fun _ _ _ h => h) ⟨Or.inl ⟨by rfl, fun w => by go_simp⟩, fun w => rfl⟩ ?_
        try simp only [Act.put, List.getElem_toArray, List.getElem_cons_succ, List.getElem_cons_zero, List.setIfInBounds_toArray, List.set_cons_zero, List.set_cons_succ]
        refine wpAnyIn_take (i := 8) (v := .int .i64 fr) rfl rfl (by kernel_rfl) (by kernel_rfl) (by kernel_rfl) (fun _ _ _ h => h) ⟨Or.inl ⟨by rfl, fun w => by go_simp⟩, fun w => rfl⟩ ?_
        try simp only [Act.put, List.getElem_toArray, List.getElem_cons_succ, List.getElem_cons_zero, List.setIfInBounds_toArray, List.set_cons_zero, List.set_cons_succ]
        refine wpAnyIn_take (i := 9) (v := .int .i64 (i : Int)) rfl rfl (by kernel_rfl) (by kernel_rfl) (by kernel_rfl) (fun _ _ _ h => h) ⟨Or.inl ⟨by rfl, fun w => by go_simp⟩, fun w => rfl⟩ ?_
        try simp only [Act.put, List.getElem_toArray, List.getElem_cons_succ, List.getElem_cons_zero, List.setIfInBounds_toArray, List.set_cons_zero, List.set_cons_succ]
        refine wpAnyIn_take (i := 10) (v := .int .i64 (j : Int)) rfl rfl (by kernel_rfl) (by kernel_rfl) (by kernel_rfl) (fun _ _ _ h => h) ⟨Or.inl ⟨by rfl, fun w => by go_simp⟩, fun w => rfl⟩ ?_
        try simp only [Act.put, List.getElem_toArray, List.getElem_cons_succ, List.getElem_cons_zero, List.setIfInBounds_toArray, List.set_cons_zero, List.set_cons_succ]
        refine wpAnyIn_take (i := 11) (v := .slice gp (runsK (fun x => pickL x at') l')[k].length gc) rfl rfl (by kernel_rfl) (by kernel_rfl) (by kernel_rfl) (fun _ _ _ h => h) ⟨Or.inl ⟨by rfl, fun w => by go_simp⟩, fun w => rfl⟩ ?_
        try simp only [Act.put, List.getElem_toArray, List.getElem_cons_succ, List.getElem_cons_zero, List.setIfInBounds_toArray, List.set_cons_zero, List.set_cons_succ]
        refine wpAnyIn_ready (rs := [4, 5]) (by kernel_rfl) (by simp) ?_
        refine allIn rfl (by kernel_rfl) (fun K hK => opValIn (v := .slice p2 x.length c2) (w' := w6.drew) (by have kx := G2.out w6.drew (HG6.out.drew.below); go_simp) (hK _ _ ?_)) ?_
        · try simp only [Act.put, List.getElem_toArray, List.getElem_cons_succ, List.getElem_cons_zero, List.setIfInBounds_toArray, List.set_cons_zero, List.set_cons_succ]
          refine wpAnyIn_ready (rs := [5]) (by kernel_rfl) (by simp) ?_
          refine allIn rfl (by kernel_rfl) (fun K hK => opValIn (v := .slice aa at'.length ca) (w' := w6.drew) (by have kx := ((F2.out.below HG6.out.drew.below (by omega)).cells).c1; go_simp) (hK _ _ ?_)) AllReadyIn.nil
          try simp only [Act.put, List.getElem_toArray, List.getElem_cons_succ, List.getElem_cons_zero, List.setIfInBounds_toArray, List.set_cons_zero, List.set_cons_succ]
          refine wpAnyIn_ready (rs := [6]) (by kernel_rfl) (by simp) ?_
          refine allIn rfl (by kernel_rfl) (fun K hK => opCallIn (f := 54) (args := #[.slice p2 x.length c2, .slice aa at'.length ca]) (by kernel_rfl) (key_any 0 wo.heap.size la ha x at' _ _ w6.drew (Sl.below R2.out Row1.loc HG6.out.drew.below (Nat.le_refl _)) HG6.out.drew.size (Sl.below F3.out Ints.loc HG6.out.drew.below (by omega)) (by show ha ≤ w6.heap.size; omega) Hkx.out hal _ (fun wk vk hgk hok => ?_))) AllReadyIn.nil
          obtain ⟨pk, ck, rfl⟩ := Own.slice hok
          refine ⟨_, rfl, hK _ _ ?_⟩
          clear hK
          have HGk : Hid (Gw w6 wk) := Lib.hid ((Gw.refl w6).drew.trans hgk)
          have hkk : pickL x at' = (keysL (fun x => pickL x at') l)[k] := by rw [← Hperm.out.1, Hx.out]; exact Hkx2.out.2
          have hok2 : OwnV w6.heap.size wk _ _ := hok
          rw [hkk] at hok2
          rw [hkk]
          have Hok2 := Lib.hid hok2
          clear hok2 hok hgk
          try simp only [Act.put, List.getElem_toArray, List.getElem_cons_succ, List.getElem_cons_zero, List.setIfInBounds_toArray, List.set_cons_zero, List.set_cons_succ]
          have hzk := HGk.out.size
          have HRk : Hid (Rws 0 w6.heap.size wk _ _) := Lib.hid (Sl.below Hrg.out rowE_loc HGk.out.below (Nat.le_refl _))
          obtain ⟨yf, yt, ya, yb, hy, hRy⟩ := HY.out k g w6 wk pk ck gp gc _ HJ6.out HGk.out.below (by omega) hkT Hok2.out HRk.out Hperm.out.2
          refine wpAnyIn_ready (rs := [12]) (by kernel_rfl) (by simp) ?_
          refine allIn rfl (by kernel_rfl) (fun K hK => opYieldIn (l := L) (fn := yf) (tmps := yt) (assign := ya) (body := yb) (m := m) rfl (by go_simp) hRy (fun e w' he => ?_)) AllReadyIn.nil
          clear hy hRy
          rcases he with ⟨rfl, hj2, hg2⟩ | ⟨rfl, hz2⟩
          · refine ⟨_, rfl, hK _ _ ?_⟩
            have HJ2 := Lib.hid hj2
            have Hg2 := Lib.hid hg2
            clear hj2 hK hg2
            try simp only [Act.put, List.getElem_toArray, List.getElem_cons_succ, List.getElem_cons_zero, List.setIfInBounds_toArray, List.set_cons_zero, List.set_cons_succ]
            refine wpAnyIn_take (i := 13) (v := .bool false) rfl rfl (by kernel_rfl) (by kernel_rfl) (by kernel_rfl) (fun _ _ _ h => h) ⟨Or.inl ⟨by rfl, fun w => by go_simp⟩, fun w => rfl⟩ ?_
            try simp only [Act.put, List.getElem_toArray, List.getElem_cons_succ, List.getElem_cons_zero, List.setIfInBounds_toArray, List.set_cons_zero, List.set_cons_succ]
            refine wpAnyIn_done (by kernel_rfl) ?_ _
            have HLs2 : Hid (LS W0.heap.size a b w' (.slice (some ⟨b4, o4, none⟩) l'.length k1) l') := Lib.hid (by
              have hBk := HG6.out.below.trans (HGk.out.below.mono hz6)
              have h1 := LS.same HLs.out (w' := wk) (fun g' e => hBk.block g' (LS.lt HLs.out g' e).2) (.below hBk (by omega))
              refine LS.same h1 (w' := w') (fun g' e => by rw [HG2.out g' e]; exact Hg2.out) ?_
              obtain ⟨q1, -⟩ := HJF.out _ _ _ (HJB.out _ _ _ _ HJ6.out HGk.out.below)
              obtain ⟨q2, -⟩ := HJF.out _ _ _ HJ2.out
              exact fun k h1 h2 => (q2 k h1 h2).trans (q1 k h1 h2).symm)
            gi_wp2_with fail
            go_roundw
            case rel => exact ⟨k + 1, j, j, rfl, by first | rfl | go_num, by omega, Hje, Lib.hid (by rw [Hj.out]; exact Hmid.out), HLs2, HJ2⟩
            case measure => have := Hj.out; simp [intOf]; omega
          · refine ⟨_, rfl, hK _ _ ?_⟩
            have HZ2 := Lib.hid hz2
            clear hz2 hK
            try simp only [Act.put, List.getElem_toArray, List.getElem_cons_succ, List.getElem_cons_zero, List.setIfInBounds_toArray, List.set_cons_zero, List.set_cons_succ]
            refine wpAnyIn_take (i := 13) (v := .bool true) rfl rfl (by kernel_rfl) (by kernel_rfl) (by kernel_rfl) (fun _ _ _ h => h) ⟨Or.inl ⟨by rfl, fun w => by go_simp⟩, fun w => rfl⟩ ?_
            try simp only [Act.put, List.getElem_toArray, List.getElem_cons_succ, List.getElem_cons_zero, List.setIfInBounds_toArray, List.set_cons_zero, List.set_cons_succ]
            refine wpAnyIn_done (by kernel_rfl) ?_ _
            gi_wp2_with fail
            simp only [Exit.noGoto]
            exact bodyPost_ret (results_none rfl _ _ _) rfl ⟨⟨_, rfl⟩, .inr HZ2.out⟩
        refine allIn rfl (by kernel_rfl) (fun K hK => opValIn (v := .slice aa at'.length ca) (w' := w6.drew) (by have kx := ((F2.out.below HG6.out.drew.below (by omega)).cells).c1; go_simp) (hK _ _ ?_)) AllReadyIn.nil
        try simp only [Act.put, List.getElem_toArray, List.getElem_cons_succ, List.getElem_cons_zero, List.setIfInBounds_toArray, List.set_cons_zero, List.set_cons_succ]
        refine wpAnyIn_ready (rs := [4]) (by kernel_rfl) (by simp) ?_
        refine allIn rfl (by kernel_rfl) (fun K hK => opValIn (v := .slice p2 x.length c2) (w' := w6.drew) (by have kx := G2.out w6.drew (HG6.out.drew.below); go_simp) (hK _ _ ?_)) AllReadyIn.nil
        try simp only [Act.put, List.getElem_toArray, List.getElem_cons_succ, List.getElem_cons_zero, List.setIfInBounds_toArray, List.set_cons_zero, List.set_cons_succ]
        refine wpAnyIn_ready (rs := [6]) (by kernel_rfl) (by simp) ?_
        refine allIn rfl (by kernel_rfl) (fun K hK => opCallIn (f := 54) (args := #[.slice p2 x.length c2, .slice aa at'.length ca]) (by kernel_rfl) (key_any 0 wo.heap.size la ha x at' _ _ w6.drew (Sl.below R2.out Row1.loc HG6.out.drew.below (Nat.le_refl _)) HG6.out.drew.size (Sl.below F3.out Ints.loc HG6.out.drew.below (by omega)) (by show ha ≤ w6.heap.size; omega) Hkx.out hal _ (fun wk vk hgk hok => ?_))) AllReadyIn.nil
        obtain ⟨pk, ck, rfl⟩ := Own.slice hok
        refine ⟨_, rfl, hK _ _ ?_⟩
        clear hK
        have HGk : Hid (Gw w6 wk) := Lib.hid ((Gw.refl w6).drew.trans hgk)
        have hkk : pickL x at' = (keysL (fun x => pickL x at') l)[k] := by rw [← Hperm.out.1, Hx.out]; exact Hkx2.out.2
        have hok2 : OwnV w6.heap.size wk _ _ := hok
        rw [hkk] at hok2
        rw [hkk]
        have Hok2 := Lib.hid hok2
        clear hok2 hok hgk
        try simp only [Act.put, List.getElem_toArray, List.getElem_cons_succ, List.getElem_cons_zero, List.setIfInBounds_toArray, List.set_cons_zero, List.set_cons_succ]
        have hzk := HGk.out.size
        have HRk : Hid (Rws 0 w6.heap.size wk _ _) := Lib.hid (Sl.below Hrg.out rowE_loc HGk.out.below (Nat.le_refl _))
        obtain ⟨yf, yt, ya, yb, hy, hRy⟩ := HY.out k g w6 wk pk ck gp gc _ HJ6.out HGk.out.below (by omega) hkT Hok2.out HRk.out Hperm.out.2
        refine wpAnyIn_ready (rs := [12]) (by kernel_rfl) (by simp) ?_
        refine allIn rfl (by kernel_rfl) (fun K hK => opYieldIn (l := L) (fn := yf) (tmps := yt) (assign := ya) (body := yb) (m := m) rfl (by go_simp) hRy (fun e w' he => ?_)) AllReadyIn.nil
        clear hy hRy
        rcases he with ⟨rfl, hj2, hg2⟩ | ⟨rfl, hz2⟩
        · refine ⟨_, rfl, hK _ _ ?_⟩
          have HJ2 := Lib.hid hj2
          have Hg2 := Lib.hid hg2
          clear hj2 hK hg2
          try simp only [Act.put, List.getElem_toArray, List.getElem_cons_succ, List.getElem_cons_zero, List.setIfInBounds_toArray, List.set_cons_zero, List.set_cons_succ]
          refine wpAnyIn_take (i := 13) (v := .bool false) rfl rfl (by kernel_rfl) (by kernel_rfl) (by kernel_rfl) (fun _ _ _ h => h) ⟨Or.inl ⟨by rfl, fun w => by go_simp⟩, fun w => rfl⟩ ?_
          try simp only [Act.put, List.getElem_toArray, List.getElem_cons_succ, List.getElem_cons_zero, List.setIfInBounds_toArray, List.set_cons_zero, List.set_cons_succ]
          refine wpAnyIn_done (by kernel_rfl) ?_ _
          have HLs2 : Hid (LS W0.heap.size a b w' (.slice (some ⟨b4, o4, none⟩) l'.length k1) l') := Lib.hid (by
            have hBk := HG6.out.below.trans (HGk.out.below.mono hz6)
            have h1 := LS.same HLs.out (w' := wk) (fun g' e => hBk.block g' (LS.lt HLs.out g' e).2) (.below hBk (by omega))
            refine LS.same h1 (w' := w') (fun g' e => by rw [HG2.out g' e]; exact Hg2.out) ?_
            obtain ⟨q1, -⟩ := HJF.out _ _ _ (HJB.out _ _ _ _ HJ6.out HGk.out.below)
            obtain ⟨q2, -⟩ := HJF.out _ _ _ HJ2.out
            exact fun k h1 h2 => (q2 k h1 h2).trans (q1 k h1 h2).symm)
          gi_wp2_with fail
          go_roundw
          case rel => exact ⟨k + 1, j, j, rfl, by first | rfl | go_num, by omega, Hje, Lib.hid (by rw [Hj.out]; exact Hmid.out), HLs2, HJ2⟩
          case measure => have := Hj.out; simp [intOf]; omega
        · refine ⟨_, rfl, hK _ _ ?_⟩
          have HZ2 := Lib.hid hz2
          clear hz2 hK
          try simp only [Act.put, List.getElem_toArray, List.getElem_cons_succ, List.getElem_cons_zero, List.setIfInBounds_toArray, List.set_cons_zero, List.set_cons_succ]
          refine wpAnyIn_take (i := 13) (v := .bool true) rfl rfl (by kernel_rfl) (by kernel_rfl) (by kernel_rfl) (fun _ _ _ h => h) ⟨Or.inl ⟨by rfl, fun w => by go_simp⟩, fun w => rfl⟩ ?_
          try simp only [Act.put, List.getElem_toArray, List.getElem_cons_succ, List.getElem_cons_zero, List.setIfInBounds_toArray, List.set_cons_zero, List.set_cons_succ]
          refine wpAnyIn_done (by kernel_rfl) ?_ _
          gi_wp2_with fail
          simp only [Exit.noGoto]
          exact bodyPost_ret (results_none rfl _ _ _) rfl ⟨⟨_, rfl⟩, .inr HZ2.out⟩
    · have iil : ¬ (i : Int) < (l'.length : Int) := by omega
      have hkE : k = (keysL (fun x => pickL x at') l).length := by rw [← HT.out]; exact HM.out.2.2 (by omega)
      have HJE : Hid (∃ g, J (keysL (fun x => pickL x at') l).length g wo) := Lib.hid ⟨g, by rw [← hkE]; exact HJ.out⟩
      clear hkE
      gi_wp2_with fail
      try simp only [Exit.noGoto]
      go_end0
      exact ⟨⟨_, rfl⟩, .inl HJE.out⟩
end Go.Proofs.YtmconajkgjfplaaGreat
end

/- Without. (Printed by mee.py.) -/
section
set_option linter.unusedVariables false
set_option linter.unusedSimpArgs false
namespace Go.Proofs.YtmconajkgjfplaaGreat
open Go.RowKit Go.Shelf
set_option linter.unusedVariables false
set_option linter.unusedSimpArgs false
attribute [local go_sem] Oper.semAt_some

theorem heap_lt {w : World} {k : Nat} {o : Obj} (h : w.heap[k]? = some o) : k < w.heap.size := (Array.getElem?_eq_some_iff.1 h).1
theorem roundPost_retR {P : Program} {RL : LoopState → Option Code → Loop} {l : Nat} {fn : FuncId} {tmps : Array Value} {ps : Array Tmp} {assign body : Code} {D : Nat} {W : World} {R : Ending → World → Prop} {a : Act}
    (hRL : RL = recL fn tmps ps assign body D) (hl : W.heap[l]? = some (.loop (RL .busy none)))
    (h : R (.returned (.bool false)) (W.putObj l (.loop (RL .done (some .ret))))) : roundPost P l R .ret a W := by subst hRL; exact roundPost_ret hl h
theorem results_cells {P : Program} {fn : Func} {t u : Tmp} {ty uy : TypeId} {tmps : Array Value} {w : World} {a b : Addr} {v1 v2 : Value} (h : fn.results = #[.cell t ty, .cell u uy]) (ht : tmps.getD t undef = .pointer (some a)) (hu : tmps.getD u undef = .pointer (some b))
    (h1 : (loadVar ty a).run P w = .ok v1 w) (h2 : (loadVar uy b).run P w = .ok v2 w) : (results fn tmps).run P w = .ok (.tuple #[v1, v2]) w := by
  simp only [results, h]
  have ht' : (tmps[t]?).getD undef = .pointer (some a) := by simpa using ht
  have hu' : (tmps[u]?).getD undef = .pointer (some b) := by simpa using hu
  simp [Sem.run_bind, Result.andThen, ht', hu', asAddr, h1, h2]
end Go.Proofs.YtmconajkgjfplaaGreat
end

/- Without. (Printed by mef.py.) -/
section
set_option linter.unusedVariables false
set_option linter.unusedSimpArgs false
namespace Go.Proofs.YtmconajkgjfplaaGreat
open Go.RowKit
set_option linter.unusedVariables false
set_option linter.unusedSimpArgs false

theorem placeI_mem {l : List S} {c : S} (h : c ∈ l) : 0 ≤ placeI l c := by
  by_cases hp : 0 ≤ placeI l c
  · exact hp
  · exfalso
    obtain ⟨k, hk, rfl⟩ := List.getElem_of_mem h
    have key : ∀ n, ∀ k (hk : k < l.length), k ≤ n → 0 ≤ placeI l l[k] := by
      intro n
      induction n with
      | zero =>
        intro k hk h0
        obtain rfl : k = 0 := by omega
        rw [placeI_hit (k := 0) hk rfl (fun i hi => absurd hi (Nat.not_lt_zero _))]
        omega
      | succ n ih =>
        intro k hk hkn
        by_cases hex : ∃ i, i < k ∧ l.getD i [] = l[k]
        · obtain ⟨i, hik, he⟩ := hex
          rw [getDS l _ i (by omega)] at he
          rw [← he]
          exact ih i (by omega) (by omega)
        · rw [placeI_hit (k := k) hk rfl (fun i hi e => hex ⟨i, hi, e⟩)]
          omega
    exact hp (key k k hk (Nat.le_refl _))
theorem within_sub {cols of : List S} (h : ∀ c ∈ cols, c ∈ of) : withinB cols of = true := by
  unfold withinB
  rw [List.all_eq_true]
  exact fun c hc => decide_eq_true (placeI_mem (h c hc))
theorem rest_len (a b : List S) : (restC a b).length ≤ b.length := List.length_filter_le _ _
theorem pick_len' (x : List V) (cols rc : List S) : (pickL x (placesL cols rc)).length = cols.length := by unfold pickL placesL; simp
/-- Do rows agree? -/
def agreeR (ac bc : List S) (x y : List V) : Bool := cmpR (pickL y (placesL (commonC ac bc) bc)) (pickL x (placesL (commonC ac bc) ac)) == 0
end Go.Proofs.YtmconajkgjfplaaGreat
end

/- A turn of Join's outer loop. (Printed by meg.py.) -/
section
set_option linter.unusedVariables false
set_option linter.unusedSimpArgs false
namespace Go.Proofs.YtmconajkgjfplaaGreat
open Go.RowKit Go.Shelf
set_option linter.unusedVariables false
set_option linter.unusedSimpArgs false
attribute [local go_sem] Oper.semAt_some

/-- What a slice owns holds no calls put off. -/
theorem Own.ne_def {α : Type} {enc : α → List Value} {e : TypeId} {size lo : Nat} {w : World} {v : Value} {xs : List α} (h : Own enc e size lo w v xs) {D : Nat} {o : Obj} (hb : w.heap[D]? = some o) (hc : o.isCells = false) : v.ownBlock ≠ some D := by
  intro hk
  rcases h.2 with ⟨rfl, -⟩ | ⟨g, cap, cur, rfl, -, hg, -⟩
  · cases hk
  · have e1 : g = D := by simpa [Value.ownBlock] using hk
    subst e1
    rw [hg] at hb
    injection hb with hb
    subst hb
    cases hc
theorem OwnR.turn {lo : Nat} {w w' : World} {v : Value} {hs : List Value} {xs : List (List V)} (h : OwnR lo w v hs xs) {L : Nat} {o : Obj} (hl : w.heap[L]? = some o) (hc : o.isCells = false) (hO : Only (· = L) w w') : OwnR lo w' v hs xs :=
  ⟨Own.same h.own (fun g e => hO.block g (Own.lt h.own g e).2 (fun e2 => Own.ne_def h.own hl hc (by rw [e, show g = L from e2]))), h.len,
    fun i hi h2 => Own.same (h.row i hi h2) (fun g e => hO.block g (Own.lt (h.row i hi h2) g e).2 (fun e2 => Own.ne_def (h.row i hi h2) hl hc (by rw [e, show g = L from e2]))), h.apart⟩
end Go.Proofs.YtmconajkgjfplaaGreat
end

/- Join. (Printed by meh.py.) -/
section
set_option linter.unusedVariables false
set_option linter.unusedSimpArgs false
namespace Go.Proofs.YtmconajkgjfplaaGreat
open Go.RowKit Go.Shelf
set_option linter.unusedVariables false
set_option linter.unusedSimpArgs false
attribute [local go_sem] Oper.semAt_some

def joinCols (ac bc : List S) : List S := ac ++ restC ac bc
def joinL (ac : List S) (la : List (List V)) (bc : List S) (lb : List (List V)) : List (List V) := la.flatMap fun x => (lb.filter (agreeR ac bc x)).map fun y => x ++ pickL y (placesL (restC ac bc) bc)
def joinErr (ac : List S) (la : List (List V)) (bc : List S) (lb : List (List V)) : Int := if mayRel ac la && mayRel bc lb then madeErr (joinCols ac bc) (joinL ac la bc lb) else 2
theorem marks_leave {F : Fence} {n : Nat} {P : Program} {fn : Func} {tmps : Array Value} {R : Ending → World → Prop} : ∀ (Ds : List Nat) (w : World), Ds.Nodup → (∀ D ∈ Ds, w.heap[D]? = some (.deferred (some []))) →
    (∀ w', Only (· ∈ Ds) w w' → LeavesIn F n P fn tmps R [] .returning w') → LeavesInM F n P fn tmps R (Ds.map markD) .returning w
  | [], w, _, _, h => h w (Only.refl _ _)
  | D :: Ds, w, hn, hd, h => by
    obtain ⟨h1, h2⟩ := List.nodup_cons.1 hn
    refine ⟨by simp, .inl ⟨D, w.putObj D (.deferred none), rfl, run_takeDeferred (hd D (by simp)), ?_⟩⟩
    have hp : Only (· ∈ D :: Ds) w (w.putObj D (.deferred none)) := Only.putObj (A := (· ∈ D :: Ds)) w (b := D) (by simp) _
    refine marks_leave Ds _ h2 (fun D' hD' => (World.putObj_heap_other (by rintro rfl; exact h1 hD')).trans (hd D' (by simp [hD']))) (fun w' ho => h w' (hp.trans (ho.mono (fun k _ hk => List.mem_cons_of_mem _ hk))))
theorem Own.turns {α : Type} {enc : α → List Value} {e : TypeId} {size lo : Nat} {w w' : World} {v : Value} {xs : List α} {A : Nat → Prop} (h : Own enc e size lo w v xs) (hA : ∀ D, A D → ∃ o, w.heap[D]? = some o ∧ o.isCells = false) (hO : Only A w w') : Own enc e size lo w' v xs :=
  Own.same h (fun g e => hO.block g (Own.lt h g e).2 (fun e2 => by obtain ⟨o, h1, h2⟩ := hA g e2; exact Own.ne_def h h1 h2 e))
theorem OwnR.turns {lo : Nat} {w w' : World} {v : Value} {hs : List Value} {xs : List (List V)} {A : Nat → Prop} (h : OwnR lo w v hs xs) (hA : ∀ D, A D → ∃ o, w.heap[D]? = some o ∧ o.isCells = false) (hO : Only A w w') : OwnR lo w' v hs xs :=
  ⟨Own.turns h.own hA hO, h.len, fun i hi h2 => Own.turns (h.row i hi h2) hA hO, h.apart⟩
theorem Blk.turns {w w' : World} {b : Nat} {cs : List Value} {t : TypeId} {A : Nat → Prop} (h : Blk w b cs t) (hA : ∀ D, A D → ∃ o, w.heap[D]? = some o ∧ o.isCells = false) (hO : Only A w w') : Blk w' b cs t :=
  hO.blk h (fun hb => by
    obtain ⟨o, h1, h2⟩ := hA b hb
    unfold Blk at h
    rw [h] at h1
    injection h1 with h1
    subst h1
    cases h2)
end Go.Proofs.YtmconajkgjfplaaGreat
end

/- Join's outer loop. (Printed by mei.py.) -/
section
set_option linter.unusedVariables false
set_option linter.unusedSimpArgs false
namespace Go.Proofs.YtmconajkgjfplaaGreat
open Go.RowKit Go.Shelf
set_option linter.unusedVariables false
set_option linter.unusedSimpArgs false
attribute [local go_sem] Oper.semAt_some

end Go.Proofs.YtmconajkgjfplaaGreat
end

/- made, with what it turns. (Printed by mek.py.) -/
section
set_option linter.unusedVariables false
set_option linter.unusedSimpArgs false
namespace Go.Proofs.YtmconajkgjfplaaGreat
open Go.RowKit
set_option linter.unusedVariables false
set_option linter.unusedSimpArgs false

end Go.Proofs.YtmconajkgjfplaaGreat
end

/- Join. (Printed by mej.py, mej2.py.) -/
section
set_option linter.unusedVariables false
set_option linter.unusedSimpArgs false
namespace Go.Proofs.YtmconajkgjfplaaGreat
open Go.RowKit Go.Shelf
set_option linter.unusedVariables false
set_option linter.unusedSimpArgs false
attribute [local go_sem] Oper.semAt_some

end Go.Proofs.YtmconajkgjfplaaGreat
end

/- The document's agree. (Printed by mel.py.) -/
section
set_option linter.unusedVariables false
set_option linter.unusedSimpArgs false
namespace Go.Proofs.YtmconajkgjfplaaGreat
open Go.RowKit
set_option linter.unusedVariables false
set_option linter.unusedSimpArgs false
attribute [local go_sem ↓] Go.wp_at_zero Go.wp_at_succ

/-- Do rows agree in a column of the first? -/
def agS (ac bc : List S) (x y : List V) (i : Nat) : Bool := decide (placeI bc (ac.getD i []) < 0) || cmpV (x.getD i default) (y.getD (placeI bc (ac.getD i [])).toNat default) == 0
def refAgreeB (ac bc : List S) (x y : List V) : Bool := (List.range ac.length).all (agS ac bc x y)
theorem range_all_succ (p : Nat → Bool) (k : Nat) : (List.range (k + 1)).all p = ((List.range k).all p && p k) := by rw [List.range_succ, List.all_append]; simp
theorem range_all_no {p : Nat → Bool} {k n : Nat} (hk : k < n) (h : p k = false) : (List.range n).all p = false := by
  rw [List.all_eq_false]
  exact ⟨k, List.mem_range.2 hk, by rw [h]; simp⟩
set_option maxRecDepth 100000 in
set_option maxHeartbeats 4000000 in
theorem refAgree_any (la1 ha1 lb1 hbb1 lx hx ly hy : Nat) (ac bc : List S) (pa pb qa qb : Option Addr) (ca cb na da nb db : Nat) (x y : List V) (vx vy : Value) (w : World) (ha : Strs la1 ha1 w (.slice pa ac.length ca) ac) (hha : ha1 ≤ w.heap.size) (hb : Strs lb1 hbb1 w (.slice pb bc.length cb) bc) (hhb : hbb1 ≤ w.heap.size) (hxr : Row1 lx hx w vx x) (hhx : hx ≤ w.heap.size) (hyr : Row1 ly hy w vy y) (hhy : hy ≤ w.heap.size)
    (hxl : x.length = ac.length) (hyl : y.length = bc.length) (hxs : ∀ a ∈ x, a.s.length ≤ 9223372036854775807) (hys : ∀ a ∈ y, a.s.length ≤ 9223372036854775807) (hal : ac.length ≤ 1000000000000) (hbl : bc.length ≤ 1000000000000) (R : Ending → World → Prop)
    (hR : ∀ w', Below w.heap.size w w' → R (.returned (.bool (refAgreeB ac bc x y))) w') :
    Calls Tryz.prog 92 #[.agg #[.slice pa ac.length ca, .slice qa na da], .agg #[.slice pb bc.length cb, .slice qb nb db], vx, vy] w R := by
  have HR := Lib.hid hR
  have Ha := Lib.hid ha
  have Hb := Lib.hid hb
  have Hx := Lib.hid hxr
  have Hy := Lib.hid hyr
  have Hxs := Lib.hid hxs
  have Hys := Lib.hid hys
  have Hxl := Lib.hid hxl
  have Hyl := Lib.hid hyl
  obtain ⟨px, cx, rfl, -, -, -, -⟩ := hxr.form
  obtain ⟨py, cy, rfl, -, -, -, -⟩ := hyr.form
  clear hR ha hb hxr hyr hxs hys hxl hyl
  obtain ⟨wa, ewa⟩ : ∃ x, x = w.alloc (.cells #[.slice pa ac.length ca, .slice qa na da] 50) := ⟨_, rfl⟩
  obtain ⟨w2, ew2⟩ : ∃ x, x = wa.alloc (.cells #[.slice pb bc.length cb, .slice qb nb db] 50) := ⟨_, rfl⟩
  have sa : wa.heap.size = w.heap.size + 1 := by rw [ewa]; simp
  have hBa : Below w.heap.size w wa := by rw [ewa]; exact alloc_below _ _
  have hBb : Below wa.heap.size wa w2 := by rw [ew2]; exact alloc_below _ _
  have hb1 : Blk wa w.heap.size [.slice pa ac.length ca, .slice qa na da] 50 := by rw [ewa]; exact Blk.new w [.slice pa ac.length ca, .slice qa na da] _ rfl
  have hb2 : Blk w2 (w.heap.size + 1) [.slice pb bc.length cb, .slice qb nb db] 50 := by rw [ew2]; exact Blk.new wa [.slice pb bc.length cb, .slice qb nb db] _ sa.symm
  have hb1 := hb1.below hBb hb1.lt
  have hB := hBa.trans (hBb.mono hBa.size)
  go_enter Tryz.func92, Tryz.ntmps92
  go_upto_region 1 with fail
  rw [← ewa, ← ew2]
  have HB := Lib.hid hB
  have Hb1 := Lib.hid hb1
  have Hb2 := Lib.hid hb2
  have hz2 := hB.size
  have hl1 := hb1.lt
  have hl2 := hb2.lt
  clear ewa ew2 sa hBa hBb hb1 hb2 hB
  go_wp2_with fail
  go_loopw [9] (fun t9 wr => ∃ k : Nat, k ≤ ac.length ∧ t9 = .int .i64 k ∧ (List.range k).all (agS ac bc x y) = true ∧ Below w2.heap.size w2 wr) (fun t9 _ => ac.length - (intOf t9).toNat)
  case atStart => exact ⟨0, Nat.zero_le _, rfl, rfl, Below.refl _ _⟩
  case round =>
    obtain ⟨k, hk, rfl, hall, hB⟩ := hrel
    obtain ⟨wo, ewo⟩ : ∃ x, x = wr := ⟨_, rfl⟩
    subst ewo
    have Hall := Lib.hid hall
    have HBo := Lib.hid hB
    have HBw := Lib.hid (HB.out.trans (hB.mono (by omega)))
    have hzo := hB.size
    have Hbo1 := Lib.hid (Hb1.out.below hB hl1)
    have Hbo2 := Lib.hid (Hb2.out.below hB hl2)
    have hlo1 : w.heap.size < wo.heap.size := by omega
    have hlo2 : w.heap.size + 1 < wo.heap.size := by omega
    have kk0 : (0 : Int) ≤ (k : Int) := by omega
    clear hall hB
    obtain ⟨c0, c1⟩ := Hbo1.out.cells.c2
    simp only [Nat.zero_add] at c1
    by_cases hlt : k < ac.length
    · have kkl : (k : Int) < (ac.length : Int) := by omega
      have hak : ac.getD k [] = ac[k] := getDS ac _ k hlt
      obtain ⟨b4, o4, rfl, hb4, hst4⟩ := Strs.at (Sl.below Ha.out Strs.loc HBw.out hha) (by omega) (by omega)
      have G4 := Lib.hid (hst4 k hlt)
      have Hst := Lib.hid (range_all_succ (agS ac bc x y) k)
      have Hno : Hid (agS ac bc x y k = false → refAgreeB ac bc x y = false) := Lib.hid (fun h => range_all_no hlt h)
      have Hsk : Hid (agS ac bc x y k = (decide (placeI bc ac[k] < 0) || cmpV (x.getD k default) (y.getD (placeI bc ac[k]).toNat default) == 0)) := Lib.hid (by unfold agS; rw [hak])
      clear hst4 hak
      generalize ac[k] = s at *
      go_upto_region 4 with fail
      have hS0 : Below wo.heap.size wo wo.drew := (Below.refl _ _).drew
      refine wp_region_held_drew (S := fun w' => Below wo.heap.size wo w') (by kernel_rfl) hS0 (fun hHeld => ?_)
      refine wpAnyH_take (i := 0) (v := .pointer (some ⟨w.heap.size + 1, 0, none⟩)) rfl (by kernel_rfl) (by kernel_rfl) (by kernel_rfl) (fun _ _ _ h => h) (Or.inl ⟨by rfl, ?_⟩) hHeld ?_
      · intro w' hSw; go_simp
      try simp only [Act.put, List.getElem_toArray, List.getElem_cons_succ, List.getElem_cons_zero, List.setIfInBounds_toArray, List.set_cons_zero, List.set_cons_succ]
      refine wpAnyH_take (i := 1) (v := .slice pb bc.length cb) rfl (by kernel_rfl) (by kernel_rfl) (by kernel_rfl) (fun _ _ _ h => h) (Or.inl ⟨by rfl, ?_⟩) hHeld ?_
      · intro w' hSw; obtain ⟨z0, z1⟩ := (Hbo2.out.below hSw (by omega)).cells.c2; simp only [Nat.zero_add] at z1; go_simp
      try simp only [Act.put, List.getElem_toArray, List.getElem_cons_succ, List.getElem_cons_zero, List.setIfInBounds_toArray, List.set_cons_zero, List.set_cons_succ]
      refine wpAnyH_take (i := 2) (v := .pointer (some ⟨w.heap.size, 0, none⟩)) rfl (by kernel_rfl) (by kernel_rfl) (by kernel_rfl) (fun _ _ _ h => h) (Or.inl ⟨by rfl, ?_⟩) hHeld ?_
      · intro w' hSw; go_simp
      try simp only [Act.put, List.getElem_toArray, List.getElem_cons_succ, List.getElem_cons_zero, List.setIfInBounds_toArray, List.set_cons_zero, List.set_cons_succ]
      refine wpAnyH_take (i := 3) (v := .slice (some ⟨b4, o4, none⟩) ac.length ca) rfl (by kernel_rfl) (by kernel_rfl) (by kernel_rfl) (fun _ _ _ h => h) (Or.inl ⟨by rfl, ?_⟩) hHeld ?_
      · intro w' hSw; obtain ⟨z0, z1⟩ := (Hbo1.out.below hSw (by omega)).cells.c2; simp only [Nat.zero_add] at z1; go_simp
      try simp only [Act.put, List.getElem_toArray, List.getElem_cons_succ, List.getElem_cons_zero, List.setIfInBounds_toArray, List.set_cons_zero, List.set_cons_succ]
      refine wpAnyH_take (i := 4) (v := .int .i64 ((k : Int))) rfl (by kernel_rfl) (by kernel_rfl) (by kernel_rfl) (fun _ _ _ h => h) (Or.inl ⟨by rfl, ?_⟩) hHeld ?_
      · intro w' hSw; go_simp
      try simp only [Act.put, List.getElem_toArray, List.getElem_cons_succ, List.getElem_cons_zero, List.setIfInBounds_toArray, List.set_cons_zero, List.set_cons_succ]
      refine wpAnyH_take (i := 5) (v := .pointer (some ⟨b4, o4 + k, none⟩)) rfl (by kernel_rfl) (by kernel_rfl) (by kernel_rfl) (fun _ _ _ h => h) (Or.inl ⟨by rfl, ?_⟩) hHeld ?_
      · intro w' hSw; go_simp
      try simp only [Act.put, List.getElem_toArray, List.getElem_cons_succ, List.getElem_cons_zero, List.setIfInBounds_toArray, List.set_cons_zero, List.set_cons_succ]
      refine wpAnyH_take (i := 6) (v := .string ⟨s.toArray⟩) rfl (by kernel_rfl) (by kernel_rfl) (by kernel_rfl) (fun _ _ _ h => h) (Or.inl ⟨by rfl, ?_⟩) hHeld ?_
      · intro w' hSw; have kx := G4.out w' hSw; go_simp
      try simp only [Act.put, List.getElem_toArray, List.getElem_cons_succ, List.getElem_cons_zero, List.setIfInBounds_toArray, List.set_cons_zero, List.set_cons_succ]
      refine wpAnyH_ready (rs := [7]) (by kernel_rfl) (by simp) ?_
      refine allCall (f := 91) (args := #[.slice pb bc.length cb, .string ⟨s.toArray⟩]) rfl (by kernel_rfl) (by kernel_rfl) ?_ AllReadyH.nil
      refine place_any lb1 hbb1 bc s _ wo.drew (Sl.below Hb.out Strs.loc (HBw.out.trans (hS0.mono (by omega))) hhb) _ ?_
      refine ⟨_, rfl, hS0, ?_⟩
      try simp only [Act.put, List.getElem_toArray, List.getElem_cons_succ, List.getElem_cons_zero, List.setIfInBounds_toArray, List.set_cons_zero, List.set_cons_succ]
      refine wpAnyH_take (i := 8) (v := .int .i64 (placeI bc s)) rfl (by kernel_rfl) (by kernel_rfl) (by kernel_rfl) (fun _ _ _ h => h) (Or.inl ⟨by rfl, ?_⟩) hHeld ?_
      · intro w' hSw; go_simp
      try simp only [Act.put, List.getElem_toArray, List.getElem_cons_succ, List.getElem_cons_zero, List.setIfInBounds_toArray, List.set_cons_zero, List.set_cons_succ]
      refine wpAnyH_done (by kernel_rfl) ?_ _
      clear hHeld
      have hpl := placeI_lt bc s
      by_cases hp : placeI bc s < 0
      · have hyes : agS ac bc x y k = true := by rw [Hsk.out, decide_eq_true hp]; rfl
        have Hn : Hid ((List.range (k + 1)).all (agS ac bc x y) = true) := Lib.hid (by rw [Hst.out, Hall.out, hyes]; rfl)
        have HBd : Hid (Below w2.heap.size w2 wo.drew) := Lib.hid HBo.out.drew
        clear hyes Hst Hno Hsk hS0
        generalize placeI bc s = pq at *
        go_wp2_with fail
        go_roundw
        case rel => exact ⟨k + 1, by omega, by go_num, Hn.out, HBd.out⟩
        case measure => simp [intOf]; omega
      · obtain ⟨j, hj⟩ : ∃ j : Nat, placeI bc s = j := ⟨(placeI bc s).toNat, by omega⟩
        rw [hj] at hpl hp Hsk ⊢
        have jj0 : (0 : Int) ≤ (j : Int) := by omega
        have hjb : j < bc.length := by omega
        have hkx : k < x.length := by rw [Hxl.out]; exact hlt
        have hjy : j < y.length := by rw [Hyl.out]; exact hjb
        have kkx : (k : Int) < (x.length : Int) := by omega
        have jjy : (j : Int) < (y.length : Int) := by omega
        obtain ⟨bx, ox, rfl, hbx, hxx⟩ := Row1.at (Sl.below Hx.out Row1.loc HBw.out hhx) (by omega) (by omega)
        obtain ⟨b5, o5, rfl, hb5, hyy⟩ := Row1.at (Sl.below Hy.out Row1.loc HBw.out hhy) (by omega) (by omega)
        have Gx := Lib.hid (hxx k hkx)
        have Gy := Lib.hid (hyy j hjy)
        have hgx : x.getD k default = x[k] := getDS x _ k hkx
        have hgy : y.getD j default = y[j] := getDS y _ j hjy
        have Hma : Hid (x[k] ∈ x) := Lib.hid (List.getElem_mem hkx)
        have Hmb : Hid (y[j] ∈ y) := Lib.hid (List.getElem_mem hjy)
        have Hsk2 : Hid (agS ac bc x y k = (cmpV x[k] y[j] == 0)) := Lib.hid (by rw [Hsk.out, decide_eq_false hp, Int.toNat_natCast, hgx, hgy]; rfl)
        clear hxx hyy hgx hgy Hsk hj
        generalize x[k] = a at *
        generalize y[j] = b at *
        have HS0 := Lib.hid hS0
        clear hS0
        go_upto_region 6 with fail
        have HBo1 := Lib.hid HBo.out
        have hS0 : Below wo.heap.size wo wo.drew.drew := HS0.out.drew
        refine wp_region_held_drew (S := fun w' => Below wo.heap.size wo w') (by kernel_rfl) hS0 (fun hHeld => ?_)
        refine wpAnyH_take (i := 0) (v := .slice (some ⟨bx, ox, none⟩) x.length cx) rfl (by kernel_rfl) (by kernel_rfl) (by kernel_rfl) (fun _ _ _ h => h) (Or.inl ⟨by rfl, ?_⟩) hHeld ?_
        · intro w' hSw; go_simp
        try simp only [Act.put, List.getElem_toArray, List.getElem_cons_succ, List.getElem_cons_zero, List.setIfInBounds_toArray, List.set_cons_zero, List.set_cons_succ]
        refine wpAnyH_take (i := 1) (v := .int .i64 ((k : Int))) rfl (by kernel_rfl) (by kernel_rfl) (by kernel_rfl) (fun _ _ _ h => h) (Or.inl ⟨by rfl, ?_⟩) hHeld ?_
        · intro w' hSw; go_simp
        try simp only [Act.put, List.getElem_toArray, List.getElem_cons_succ, List.getElem_cons_zero, List.setIfInBounds_toArray, List.set_cons_zero, List.set_cons_succ]
        refine wpAnyH_take (i := 2) (v := .pointer (some ⟨bx, ox + k * 3, none⟩)) rfl (by kernel_rfl) (by kernel_rfl) (by kernel_rfl) (fun _ _ _ h => h) (Or.inl ⟨by rfl, ?_⟩) hHeld ?_
        · intro w' hSw; go_simp
        try simp only [Act.put, List.getElem_toArray, List.getElem_cons_succ, List.getElem_cons_zero, List.setIfInBounds_toArray, List.set_cons_zero, List.set_cons_succ]
        refine wpAnyH_take (i := 3) (v := .agg #[.int .i64 (a.kind), .int .i64 (a.n), .string ⟨a.s.toArray⟩]) rfl (by kernel_rfl) (by kernel_rfl) (by kernel_rfl) (fun _ _ _ h => h) (Or.inl ⟨by rfl, ?_⟩) hHeld ?_
        · intro w' hSw; obtain ⟨z0, z1, z2⟩ := (Gx.out w' hSw).c3; go_simp
        try simp only [Act.put, List.getElem_toArray, List.getElem_cons_succ, List.getElem_cons_zero, List.setIfInBounds_toArray, List.set_cons_zero, List.set_cons_succ]
        refine wpAnyH_take (i := 4) (v := .slice (some ⟨b5, o5, none⟩) y.length cy) rfl (by kernel_rfl) (by kernel_rfl) (by kernel_rfl) (fun _ _ _ h => h) (Or.inl ⟨by rfl, ?_⟩) hHeld ?_
        · intro w' hSw; go_simp
        try simp only [Act.put, List.getElem_toArray, List.getElem_cons_succ, List.getElem_cons_zero, List.setIfInBounds_toArray, List.set_cons_zero, List.set_cons_succ]
        refine wpAnyH_take (i := 5) (v := .int .i64 ((j : Int))) rfl (by kernel_rfl) (by kernel_rfl) (by kernel_rfl) (fun _ _ _ h => h) (Or.inl ⟨by rfl, ?_⟩) hHeld ?_
        · intro w' hSw; go_simp
        try simp only [Act.put, List.getElem_toArray, List.getElem_cons_succ, List.getElem_cons_zero, List.setIfInBounds_toArray, List.set_cons_zero, List.set_cons_succ]
        refine wpAnyH_take (i := 6) (v := .pointer (some ⟨b5, o5 + j * 3, none⟩)) rfl (by kernel_rfl) (by kernel_rfl) (by kernel_rfl) (fun _ _ _ h => h) (Or.inl ⟨by rfl, ?_⟩) hHeld ?_
        · intro w' hSw; go_simp
        try simp only [Act.put, List.getElem_toArray, List.getElem_cons_succ, List.getElem_cons_zero, List.setIfInBounds_toArray, List.set_cons_zero, List.set_cons_succ]
        refine wpAnyH_take (i := 7) (v := .agg #[.int .i64 (b.kind), .int .i64 (b.n), .string ⟨b.s.toArray⟩]) rfl (by kernel_rfl) (by kernel_rfl) (by kernel_rfl) (fun _ _ _ h => h) (Or.inl ⟨by rfl, ?_⟩) hHeld ?_
        · intro w' hSw; obtain ⟨z0, z1, z2⟩ := (Gy.out w' hSw).c3; go_simp
        try simp only [Act.put, List.getElem_toArray, List.getElem_cons_succ, List.getElem_cons_zero, List.setIfInBounds_toArray, List.set_cons_zero, List.set_cons_succ]
        refine wpAnyH_ready (rs := [8]) (by kernel_rfl) (by simp) ?_
        refine allCall (f := 79) (args := #[.agg #[.int .i64 a.kind, .int .i64 a.n, .string ⟨a.s.toArray⟩], .agg #[.int .i64 b.kind, .int .i64 b.n, .string ⟨b.s.toArray⟩]]) rfl (by kernel_rfl) (by kernel_rfl) ?_ AllReadyH.nil
        refine refCompare_any a b _ (Hxs.out _ Hma.out) (Hys.out _ Hmb.out) _ (fun w5 hB5 => ?_)
        refine ⟨_, rfl, hS0.trans (hB5.mono (Nat.le_refl _)), ?_⟩
        have HB5 := Lib.hid (hS0.trans (hB5.mono (Nat.le_refl _)))
        clear hB5 hHeld
        have hHeld := HB5.out
        try simp only [Act.put, List.getElem_toArray, List.getElem_cons_succ, List.getElem_cons_zero, List.setIfInBounds_toArray, List.set_cons_zero, List.set_cons_succ]
        refine wpAnyH_take (i := 9) (v := .int .i64 (cmpV a b)) rfl (by kernel_rfl) (by kernel_rfl) (by kernel_rfl) (fun _ _ _ h => h) (Or.inl ⟨by rfl, ?_⟩) hHeld ?_
        · intro w' hSw; go_simp
        try simp only [Act.put, List.getElem_toArray, List.getElem_cons_succ, List.getElem_cons_zero, List.setIfInBounds_toArray, List.set_cons_zero, List.set_cons_succ]
        refine wpAnyH_done (by kernel_rfl) ?_ _
        clear hHeld
        have HBq := Lib.hid (HBo.out.trans (HB5.out.mono (by omega)))
        have HBqw := Lib.hid (HBw.out.trans (HB5.out.mono (by omega)))
        by_cases h0 : cmpV a b = 0
        · have hyes : agS ac bc x y k = true := by rw [Hsk2.out, h0]; rfl
          have Hn : Hid ((List.range (k + 1)).all (agS ac bc x y) = true) := Lib.hid (by rw [Hst.out, Hall.out, hyes]; rfl)
          rw [h0]
          clear hyes Hst Hno Hsk2 h0 hS0
          go_wp2_with fail
          go_roundw
          case rel => exact ⟨k + 1, by omega, by go_num, Hn.out, HBq.out⟩
          case measure => simp [intOf]; omega
        · have g1 : (cmpV a b != 0) = true := by simp [h0]
          have hno : agS ac bc x y k = false := by rw [Hsk2.out]; simp [h0]
          have hr := HR.out w5 HBqw.out
          rw [Hno.out hno] at hr
          clear hno Hst Hno Hsk2 h0 hS0
          generalize cmpV a b = cv at *
          go_wp2_with fail
          first | exact hr | exact fin hr rfl
    · obtain rfl : k = ac.length := by omega
      have llt : ¬ ((ac.length : Nat) : Int) < (ac.length : Int) := by omega
      have hr := HR.out wo HBw.out
      rw [show refAgreeB ac bc x y = true from Hall.out] at hr
      go_wp2_with fail
      first | exact hr | exact fin hr rfl

end Go.Proofs.YtmconajkgjfplaaGreat
end

/- The document's Or. (Printed by mem.py, merf.py.) -/
section
set_option linter.unusedVariables false
set_option linter.unusedSimpArgs false
namespace Go.Proofs.YtmconajkgjfplaaGreat
open Go.RowKit
set_option linter.unusedVariables false
set_option linter.unusedSimpArgs false
attribute [local go_sem ↓] Go.wp_at_zero Go.wp_at_succ

end Go.Proofs.YtmconajkgjfplaaGreat
end

/- Rows agree as the document has it, and as the code has it. -/
section
set_option linter.unusedVariables false
set_option linter.unusedSimpArgs false
namespace Go.Proofs.YtmconajkgjfplaaGreat
open Go.RowKit
set_option linter.unusedVariables false

theorem placeI_at {l : List S} {c : S} (h : 0 ≤ placeI l c) : ∃ i, ∃ h : i < l.length, placeI l c = (i : Int) ∧ l[i] = c := by
  unfold placeI at h ⊢
  cases hf : l.findIdx? (· == c) with
  | none => rw [hf] at h; simp at h
  | some i =>
    obtain ⟨h1, h2, -⟩ := List.findIdx?_eq_some_iff_getElem.1 hf
    exact ⟨i, h1, rfl, by simpa using h2⟩
theorem once_place {l : List S} (h : onceB l = true) (i : Nat) (hi : i < l.length) : placeI l l[i] = (i : Int) := by
  unfold onceB at h
  have := List.all_eq_true.1 h i (List.mem_range.2 hi)
  unfold onceAt at this
  simp only [getDS l _ i hi, Bool.and_eq_true, beq_iff_eq, decide_eq_true_eq] at this
  exact this.2
theorem agree_same {ac bc : List S} (x y : List V) (ho : onceB ac = true) : refAgreeB ac bc x y = agreeR ac bc x y := by
  have hd : ∀ u v : V, (cmpV u v == 0) = true ↔ u = v := fun u v => by rw [beq_iff_eq]; exact cmpV_cmp.zero u v
  rw [Bool.eq_iff_iff]
  have h2 : agreeR ac bc x y = true ↔ ∀ c ∈ commonC ac bc, y.getD (placeI bc c).toNat default = x.getD (placeI ac c).toNat default := by
    unfold agreeR
    rw [beq_iff_eq, cmpR_cmp.zero]
    unfold pickL placesL
    rw [List.map_map, List.map_map, List.map_inj_left]
    rfl
  rw [h2]
  unfold refAgreeB
  rw [List.all_eq_true]
  constructor
  · intro h c hc
    obtain ⟨hcb, hca⟩ := List.mem_filter.1 hc
    obtain ⟨i, hi, e1, e2⟩ := placeI_at (of_decide_eq_true hca)
    have h3 := h i (List.mem_range.2 hi)
    unfold agS at h3
    rw [getDS ac _ i hi, e2, Bool.or_eq_true, hd] at h3
    rcases h3 with h3 | h3
    · have := placeI_mem hcb
      have := of_decide_eq_true h3
      omega
    · rw [e1, Int.toNat_natCast]; exact h3.symm
  · intro h i hi
    have hi := List.mem_range.1 hi
    unfold agS
    rw [getDS ac _ i hi, Bool.or_eq_true, hd]
    by_cases hp : placeI bc ac[i] < 0
    · exact .inl (decide_eq_true hp)
    · obtain ⟨j, hj, e1, e2⟩ := placeI_at (show 0 ≤ placeI bc ac[i] by omega)
      have hm : ac[i] ∈ commonC ac bc := List.mem_filter.2 ⟨by rw [← e2]; exact List.getElem_mem hj, decide_eq_true (placeI_mem (List.getElem_mem hi))⟩
      have h3 := h _ hm
      rw [once_place ho i hi, Int.toNat_natCast] at h3
      exact .inr h3.symm
theorem may_once {cols : List S} {l : List (List V)} (h : mayRel cols l = true) : onceB cols = true := by
  unfold mayRel at h
  simp only [Bool.and_eq_true] at h
  first | exact h.1.1 | exact h.1
end Go.Proofs.YtmconajkgjfplaaGreat
end

/- What relations are together, in plain words: joined with themselves, in the other order, and parted. -/
section
set_option linter.unusedVariables false
set_option linter.unusedSimpArgs false
namespace Go.Proofs.YtmconajkgjfplaaGreat
open Go.RowKit
set_option linter.unusedVariables false
set_option linter.unusedSimpArgs false

/-- The value of a column in a row. -/
def valC (cols : List S) (x : List V) (c : S) : V := x.getD (placeI cols c).toNat default
theorem pick_val (x : List V) (cs of : List S) : pickL x (placesL cs of) = cs.map (valC of x) := by
  unfold pickL placesL
  rw [List.map_map]
  rfl
theorem place_mem_iff {l : List S} {c : S} : 0 ≤ placeI l c ↔ c ∈ l :=
  ⟨fun h => by obtain ⟨i, hi, -, rfl⟩ := placeI_at h; exact List.getElem_mem hi, placeI_mem⟩
theorem val_self {cols : List S} {x : List V} (ho : onceB cols = true) (hl : x.length = cols.length) : cols.map (valC cols x) = x := by
  apply List.ext_getElem (by simp [hl])
  intro i h1 h2
  rw [List.getElem_map]
  unfold valC
  rw [once_place ho i (by simpa using h1), Int.toNat_natCast, getDS x _ i h2]
theorem common_mem {ac bc : List S} {c : S} : c ∈ commonC ac bc ↔ c ∈ bc ∧ c ∈ ac := by
  unfold commonC
  rw [List.mem_filter, decide_eq_true_eq, place_mem_iff]
theorem rest_mem {ac bc : List S} {c : S} : c ∈ restC ac bc ↔ c ∈ bc ∧ c ∉ ac := by
  unfold restC
  rw [List.mem_filter, Bool.not_eq_true', decide_eq_false_iff_not, place_mem_iff]
theorem agree_iff {ac bc : List S} {x y : List V} : agreeR ac bc x y = true ↔ ∀ c, c ∈ bc → c ∈ ac → valC bc y c = valC ac x c := by
  unfold agreeR
  rw [beq_iff_eq, cmpR_cmp.zero, pick_val, pick_val, List.map_inj_left]
  constructor
  · intro h c h1 h2; exact h c (common_mem.2 ⟨h1, h2⟩)
  · intro h c hc; exact h c (common_mem.1 hc).1 (common_mem.1 hc).2
theorem canon_is {X l : List (List V)} (hl : Up cmpR l) (h : ∀ z, z ∈ X ↔ z ∈ l) : relCanon X = l := (canon_one cmpR_cmp h).trans (canon_self cmpR_cmp hl)
theorem may_of {cols : List S} {l : List (List V)} (ho : onceB cols = true) (hl : l.length ≤ 100000) (hx : ∀ x ∈ l, x.length = cols.length) (hu : Up cmpR l) : mayRel cols l = true := by
  refine mayRel_yes ho hl (fun i hi => ?_)
  unfold mayAt
  rw [getDS l _ i hi, Bool.and_eq_true, beq_iff_eq]
  refine ⟨hx _ (List.getElem_mem hi), ?_⟩
  by_cases h0 : i = 0
  · subst h0; rfl
  · rw [getDS l _ (i - 1) (by omega), Bool.or_eq_true, decide_eq_true_eq]
    exact .inr ((List.pairwise_iff_getElem.1 hu) (i - 1) i (by omega) hi (by omega))
theorem may_up' {cols : List S} {l : List (List V)} (h : mayRel cols l = true) : Up cmpR l := may_up h
theorem madeErr_ok {cols : List S} {xs : List (List V)} (h1 : cols.length ≤ 32) (h2 : (relCanon xs).length ≤ 100000) : madeErr cols xs = 0 := by
  unfold madeErr
  rw [if_neg (by omega)]
theorem once_nodup {l : List S} (h : onceB l = true) : l.Nodup := by
  rw [List.nodup_iff_pairwise_ne, List.pairwise_iff_getElem]
  intro i j hi hj hij e
  have h1 := once_place h i hi
  have h2 := once_place h j hj
  rw [e, h2] at h1
  omega
theorem once_of {l : List S} (hn : l.Nodup) (hl : l.length ≤ 32) : onceB l = true := by
  refine onceB_yes (fun i hi => ?_)
  unfold onceAt
  rw [getDS l _ i hi, Bool.and_eq_true, decide_eq_true_eq, beq_iff_eq]
  refine ⟨by omega, placeI_hit hi rfl (fun j hj e => ?_)⟩
  rw [getDS l _ j (by omega)] at e
  rw [List.nodup_iff_pairwise_ne, List.pairwise_iff_getElem] at hn
  exact hn j i (by omega) hi hj e
theorem nodup_len_le : ∀ {l m : List S}, l.Nodup → (∀ c ∈ l, c ∈ m) → l.length ≤ m.length := by
  intro l
  induction l with
  | nil => intro m _ _; simp
  | cons a r ih =>
    intro m hn hm
    obtain ⟨h1, h2⟩ := List.nodup_cons.1 hn
    have ha : a ∈ m := hm a List.mem_cons_self
    have := ih (m := m.erase a) h2 (fun c hc => (List.mem_erase_of_ne (by rintro rfl; exact h1 hc)).2 (hm c (List.mem_cons_of_mem _ hc)))
    rw [List.length_erase_of_mem ha] at this
    have := List.length_pos_of_mem ha
    rw [List.length_cons]
    omega
section
variable {rc : List S} {l : List (List V)} (h : mayRel rc l = true)
include h
end
section
variable {rc sc : List S} {l m : List (List V)} (hr : mayRel rc l = true) (hs : mayRel sc m = true)
include hr hs
end

section
variable {rc sc : List S} {l m : List (List V)} (hr : mayRel rc l = true) (hs : mayRel sc m = true)
include hr
include hs
end
end Go.Proofs.YtmconajkgjfplaaGreat
end

/- The places of columns, each once: fold.places; and fold.groups. -/
section
set_option linter.unusedVariables false
set_option linter.unusedSimpArgs false
namespace Go.Proofs.YtmconajkgjfplaaGreat
open Go.RowKit
set_option linter.unusedVariables false
set_option linter.unusedSimpArgs false

set_option maxRecDepth 100000 in
set_option maxHeartbeats 2000000 in
theorem IndexI_any (lo hi : Nat) (l : List Int) (c : Int) (v : Value) (w : World) (hv : Ints lo hi w v l) (R : Ending → World → Prop) (hR : ∀ r : Int, (0 ≤ r ↔ c ∈ l) → R (.returned (.int .i64 r)) w) :
    Calls Tryz.prog 80 #[v, .int .i64 c] w R := by
  have HR := Lib.hid hR
  obtain ⟨ao, cap, rfl, -, hcm, -, hc⟩ := hv.form
  have Hc := Lib.hid hc
  have hlen := hv.len
  clear hR hv hc
  go_enter Tryz.func80, Tryz.ntmps80
  go_wp2_with fail
  go_loop [8] (fun t8 => ∃ k : Nat, k ≤ l.length ∧ t8 = .int .i64 k ∧ ∀ i, i < k → l.getD i 0 ≠ c) (fun t8 => l.length - (intOf t8).toNat)
  case atStart => exact ⟨0, Nat.zero_le _, rfl, fun i h => absurd h (Nat.not_lt_zero _)⟩
  case round =>
    obtain ⟨k, hk, rfl, hno⟩ := hrel
    have Hno := Lib.hid hno
    clear hno
    have kk0 : (0 : Int) ≤ (k : Int) := by omega
    by_cases hlt : k < l.length
    · obtain ⟨b, off, rfl, hb1, hb2, hcc⟩ := Hc.out k hlt
      obtain ⟨cs, _, hcs, rfl⟩ := hcc k hlt
      have g0 := hcs.c1
      rw [Nat.mul_one] at g0
      have kkl : (k : Int) < (l.length : Int) := by omega
      have Hx : Hid (l.getD k 0 = l[k]) := Lib.hid (getDS l _ k hlt)
      have Hhit : Hid (l[k] = c → (0 ≤ (k : Int) ↔ c ∈ l)) := Lib.hid (fun h => ⟨fun _ => h ▸ List.getElem_mem hlt, fun _ => kk0⟩)
      clear hcs hcc
      generalize l[k] = y at *
      by_cases he : y = c
      · have hr := HR.out k (Hhit.out he)
        subst he
        go_wp2_with fail
        first | exact hr | exact fin hr rfl
      · have he2 : (y == c) = false := by simpa using he
        have he3 : (c == y) = false := by simp; exact fun h => he h.symm
        have he4 : ¬ c = y := fun h => he h.symm
        have Hne := Lib.hid he
        go_wp2_with fail
        go_round
        case rel => exact ⟨k + 1, by omega, by go_num, fun i hi => by
          by_cases e : i = k
          · subst e; rw [Hx.out]; exact Hne.out
          · exact Hno.out i (by omega)⟩
        case measure => simp [intOf]; omega
    · obtain rfl : k = l.length := by omega
      have hr := HR.out (-1) ⟨fun h => by omega, fun h => by
        obtain ⟨i, hi, e⟩ := List.getElem_of_mem h
        exact absurd ((getDS l 0 i hi).trans e) (Hno.out i hi)⟩
      go_wp2_with fail
      first | exact hr | exact fin hr rfl
set_option maxRecDepth 100000 in
set_option maxHeartbeats 2000000 in
theorem ContainsI_any (lo hi : Nat) (l : List Int) (c : Int) (v : Value) (w : World) (hv : Ints lo hi w v l) (R : Ending → World → Prop) (hR : R (.returned (.bool (decide (c ∈ l)))) w) :
    Calls Tryz.prog 49 #[v, .int .i64 c] w R := by
  have HR := Lib.hid hR
  have Hv := Lib.hid hv
  obtain ⟨ao, cap, rfl, -, -, -, -⟩ := hv.form
  clear hR hv
  go_enter Tryz.func49, Tryz.ntmps49
  go_wp2_with fail
  refine IndexI_any lo hi l c _ w Hv.out _ (fun r hr0 => ?_)
  have hr := HR.out
  rw [show decide (c ∈ l) = decide (0 ≤ r) from decide_eq_decide.2 hr0.symm] at hr
  clear hr0
  go_wp2_with fail
  first | exact hr | exact fin hr rfl
/-- May a relation be, and are columns of it, each once? -/
def rightB (rc : List S) (l : List (List V)) (cols : List S) : Bool := mayRel rc l && withinB cols rc && onceB cols
theorem places_nodup {cols rc : List S} (hw : withinB cols rc = true) (hm : onceB rc = true) : onceB cols = true ↔ (placesL cols rc).Nodup := by
  have hat := within_at hw
  constructor
  · intro h
    have hn := once_nodup h
    unfold placesL
    rw [List.nodup_iff_pairwise_ne] at *
    rw [List.pairwise_map]
    refine (List.pairwise_iff_getElem.2 fun i j hi hj hij e => ?_)
    obtain ⟨a, ha, e1, f1⟩ := placeI_at (hat i hi)
    obtain ⟨b, hb, e2, f2⟩ := placeI_at (hat j hj)
    have : a = b := by omega
    subst this
    exact (List.pairwise_iff_getElem.1 hn) i j hi hj hij (f1.symm.trans f2)
  · intro h
    have hn : cols.Nodup := by
      unfold placesL at h
      rw [List.nodup_iff_pairwise_ne] at *
      rw [List.pairwise_map] at h
      exact h.imp (fun h e => h (by rw [e]))
    refine once_of hn (Nat.le_trans (nodup_len_le hn (fun c hc => ?_)) (once_len hm))
    obtain ⟨k, hk, rfl⟩ := List.getElem_of_mem hc
    exact place_mem_iff.1 (hat k hk)
set_option maxRecDepth 100000 in
set_option maxHeartbeats 4000000 in
theorem fplaces_any (lo hi lc hc l2 h2 : Nat) (rc : List S) (ac : Option Addr) (cc : Nat) (l : List (List V)) (lv : Value) (cols : List S) (cv : Value) (w : World) (hrc : Strs lc hc w (.slice ac rc.length cc) rc) (hhc : hc ≤ w.heap.size) (hv : Rws lo hi w lv l) (hhi : hi ≤ w.heap.size) (hcols : Strs l2 h2 w cv cols) (hh2 : h2 ≤ w.heap.size) (hlen : cols.length ≤ 1000000000000) (R : Ending → World → Prop)
    (hno : rightB rc l cols = false → ∀ w', Below w.heap.size w w' → R (.returned (.tuple #[.slice none 0 0, .bool false])) w')
    (hyes : rightB rc l cols = true → ∀ w' v', Below w.heap.size w w' → OwnI w.heap.size w' v' (placesL cols rc) → R (.returned (.tuple #[v', .bool true])) w') :
    Calls Tryz.prog 21 #[.agg #[.slice ac rc.length cc, lv], cv] w R := by
  have Hno := Lib.hid hno
  have Hyes := Lib.hid hyes
  have Hv := Lib.hid hv
  have Hrc := Lib.hid hrc
  have Ho := Lib.hid hcols
  obtain ⟨av, cv2, rfl, -, -, -, -⟩ := hv.form
  obtain ⟨ak, ck, rfl, -, -, -, -⟩ := hcols.form
  have hol := hcols.len
  have hrl := hrc.len
  clear hno hyes hv hrc hcols
  have hs1 : (w.alloc (.cells #[.slice ac rc.length cc, .slice av l.length cv2] 25)).heap.size = w.heap.size + 1 := by simp
  have hB1 := alloc_below w (.cells #[.slice ac rc.length cc, .slice av l.length cv2] 25)
  have hb1 := Blk.new w [.slice ac rc.length cc, .slice av l.length cv2] 25 rfl
  go_enter Tryz.func21, Tryz.ntmps21
  go_upto_region 1 with fail
  generalize w.alloc (.cells #[.slice ac rc.length cc, .slice av l.length cv2] 25) = w1 at *
  have HB1 := Lib.hid hB1
  have Hb1 := Lib.hid hb1
  have hz1 := hB1.size
  have hl1 := hb1.lt
  obtain ⟨c0, c1⟩ := hb1.cells.c2
  simp only [Nat.zero_add] at c1
  clear hs1 hB1 hb1
  go_wp2_with fail
  refine May_any lo hi lc hc rc _ _ l _ w1 (Sl.below Hrc.out Strs.loc HB1.out hhc) (by omega) (Sl.below Hv.out rowE_loc HB1.out hhi) (by omega) _ (fun w2 hB2 => ?_)
  have HB2 := Lib.hid (HB1.out.trans (hB2.mono hz1))
  have Hb2 := Lib.hid (Hb1.out.below hB2 hl1)
  have hz2 := hB2.size
  clear hB2 c0 c1
  cases hm : mayRel rc l
  · have hr := Hno.out (by unfold rightB; rw [hm]; rfl) w2 HB2.out
    go_wp2_with fail
    first | exact hr | exact fin hr rfl
  have Hm := Lib.hid hm
  clear hm
  go_wp2_with fail
  go_loopw [6, 15] (fun t6 t15 wr => ∃ (k : Nat), k ≤ cols.length ∧ t15 = .int .i64 k ∧ OwnI (w.heap.size + 1) wr t6 (placesL (cols.take k) rc) ∧ Hid ((∀ i (hi : i < cols.length), i < k → 0 ≤ placeI rc cols[i]) ∧ (placesL (cols.take k) rc).Nodup) ∧ Below w.heap.size w wr ∧ Blk wr w.heap.size [.slice ac rc.length cc, .slice av l.length cv2] 25) (fun _ t15 _ => cols.length - (intOf t15).toNat)
  case atStart => exact ⟨0, Nat.zero_le _, rfl, Own.nil _ _ _ _ _, Lib.hid ⟨fun i _ h => absurd h (Nat.not_lt_zero _), List.nodup_nil⟩, HB2.out, Hb2.out⟩
  case round =>
    obtain ⟨k, hk, rfl, hown, Hpl, hB, hbk⟩ := hrel
    obtain ⟨wo, ewo⟩ : ∃ x, x = wr := ⟨_, rfl⟩
    subst ewo
    have Hown := Lib.hid hown
    have HB := Lib.hid hB
    have Hbk := Lib.hid hbk
    have hz := hB.size
    have hlk := hbk.lt
    have kk0 : (0 : Int) ≤ (k : Int) := by omega
    obtain ⟨po, cap, hpo⟩ := Own.slice hown
    obtain ⟨c0, c1⟩ := hbk.cells.c2
    simp only [Nat.zero_add] at c1
    clear hown hB hbk
    have Hkl : Hid ((placesL (cols.take k) rc).length = k) := Lib.hid <| by unfold placesL; rw [List.length_map, List.length_take]; omega
    by_cases hlt : k < cols.length
    · have kkl : (k : Int) < (cols.length : Int) := by omega
      obtain ⟨b, o, rfl, hb, hat⟩ := Strs.at (Sl.below Ho.out Strs.loc HB.out hh2) (by omega) (by omega)
      have g0 := hat k hlt wo (Below.refl _ _)
      have Hst : Hid (placesL (cols.take (k + 1)) rc = placesL (cols.take k) rc ++ [placeI rc cols[k]]) := Lib.hid (by unfold placesL; rw [List.take_succ_eq_append_getElem hlt, List.map_append]; rfl)
      have hp1 := placeI_lt rc cols[k]
      by_cases hneg : placeI rc cols[k] < 0
      · have hr := Hno.out (by unfold rightB; rw [within_no hlt hneg]; simp) wo HB.out
        clear hat Hst
        generalize cols[k] = c at *
        subst hpo
        go_wp2_with fail
        refine Index_any lc hc rc c _ wo (Sl.below Hrc.out Strs.loc HB.out hhc) _ ?_
        generalize placeI rc c = pc at *
        go_wp2_with fail
        first | exact hr | exact fin hr rfl
      · by_cases hin : placeI rc cols[k] ∈ placesL (cols.take k) rc
        · have hr := Hno.out (by
            unfold rightB
            cases hw : withinB cols rc
            · simp
            · have hm := Hm.out
              rw [hm, Bool.true_and, Bool.true_and]
              cases ho : onceB cols
              · rfl
              · exfalso
                have := (places_nodup hw (may_once hm)).1 ho
                rw [show cols = cols.take (k + 1) ++ cols.drop (k + 1) from (List.take_append_drop _ _).symm, show placesL (cols.take (k + 1) ++ cols.drop (k + 1)) rc = placesL (cols.take (k + 1)) rc ++ placesL (cols.drop (k + 1)) rc by unfold placesL; rw [List.map_append], Hst.out] at this
                have := (List.nodup_append.1 (List.nodup_append.1 this).1).2.2 _ hin _ (List.mem_singleton.2 rfl)
                exact this rfl) wo HB.out
          have hdec : decide (placeI rc cols[k] ∈ placesL (cols.take k) rc) = true := decide_eq_true hin
          clear hat Hst hin
          have hO := Hown.out
          generalize cols[k] = c at *
          subst hpo
          go_wp2_with fail
          refine Index_any lc hc rc c _ wo (Sl.below Hrc.out Strs.loc HB.out hhc) _ ?_
          have hO2 := OwnI.sl hO
          generalize placeI rc c = pc at *
          have HO2 := Lib.hid hO2
          have Hdec := Lib.hid hdec
          clear hO hO2 hdec
          go_wp2_with fail
          refine ContainsI_any _ _ _ pc _ wo HO2.out _ ?_
          rw [Hdec.out]
          go_wp2_with fail
          first | exact hr | exact fin hr rfl
        · have hnn : (∀ i (hi : i < cols.length), i < k + 1 → 0 ≤ placeI rc cols[i]) ∧ (placesL (cols.take (k + 1)) rc).Nodup := ⟨fun i hi h => by
            by_cases e : i = k
            · subst e; omega
            · exact Hpl.out.1 i hi (by omega), by
            rw [Hst.out, List.nodup_append]
            refine ⟨Hpl.out.2, by simp, fun a ha b hb e => ?_⟩
            rw [List.mem_singleton] at hb
            subst hb e
            exact hin ha⟩
          have Hnn := Lib.hid hnn
          obtain ⟨v3, w3, hr3, ho3, ha3⟩ := appI1 Hown.out (placeI rc cols[k]) rfl (by rw [Hkl.out]; omega) (by omega)
          have HO3 := Lib.hid ho3
          have HB3 := Lib.hid (HB.out.trans (ha3.below (B := w.heap.size) (by omega) (fun q e => by have := (Own.lt Hown.out q e).1; omega)))
          have Hb3 : Hid (Blk w3 w.heap.size _ _) := Lib.hid (ha3.blk Hbk.out (fun e => by have := (Own.lt Hown.out _ e).1; omega))
          have hdec : decide (placeI rc cols[k] ∈ placesL (cols.take k) rc) = false := decide_eq_false hin
          clear hat hnn ho3 ha3 hin
          have hO := Hown.out
          generalize cols[k] = c at *
          subst hpo
          go_wp2_with fail
          refine Index_any lc hc rc c _ wo (Sl.below Hrc.out Strs.loc HB.out hhc) _ ?_
          have hO2 := OwnI.sl hO
          generalize placeI rc c = pc at *
          have HO2 := Lib.hid hO2
          have Hdec := Lib.hid hdec
          clear hO hO2 hdec
          go_wp2_with fail
          refine ContainsI_any _ _ _ pc _ wo HO2.out _ ?_
          rw [Hdec.out]
          go_wp2_with (at_builtin; refine AtApp.of ?_)
          refine AtApp.go hr3 rfl rfl rfl rfl ?_
          go_wp2_with fail
          go_roundw
          case rel => exact ⟨k + 1, by omega, by go_num, by rw [Hst.out]; exact HO3.out, Hnn, HB3.out, Hb3.out⟩
          case measure => simp [intOf]; omega
    · obtain rfl : k = cols.length := by omega
      have hO := Hown.out
      have hP := Hpl.out
      rw [List.take_length] at hO hP
      have hw : withinB cols rc = true := within_yes fun i hi => hP.1 i hi hi
      have hr := Hyes.out (by
        unfold rightB
        rw [Hm.out, hw, (places_nodup hw (may_once Hm.out)).2 hP.2]
        rfl) wo _ HB.out (Own.lower hO (Nat.le_succ _))
      clear hO hP hw
      subst hpo
      go_wp2_with fail
      first | exact hr | exact fin hr rfl
end Go.Proofs.YtmconajkgjfplaaGreat
end

/- fold.groups. -/
section
set_option linter.unusedVariables false
set_option linter.unusedSimpArgs false
namespace Go.Proofs.YtmconajkgjfplaaGreat
open Go.RowKit
set_option linter.unusedVariables false
set_option linter.unusedSimpArgs false
set_option maxRecDepth 100000 in
theorem fgroups_any (pc pr pa : Option Addr) (nc cc nr cr na ca : Nat) (w : World) (R : Ending → World → Prop)
    (hR : R (.returned (.func (.func 50) #[] #[.pointer (some ⟨w.heap.size, 0, none⟩), .pointer (some ⟨w.heap.size + 1, 0, none⟩)])) ((w.alloc (.cells #[.slice pc nc cc, .slice pr nr cr] 25)).alloc (.cells #[.slice pa na ca] 58))) :
    Calls Tryz.prog 22 #[.agg #[.slice pc nc cc, .slice pr nr cr], .slice pa na ca] w R := by
  go_enter Tryz.func22, Tryz.ntmps22
  go_wp2_with fail
  first | exact hR | exact fin hR rfl
end Go.Proofs.YtmconajkgjfplaaGreat
end

/- Relations of a call's own, one behind the other, in a slice of its own. -/
section
set_option linter.unusedVariables false
set_option linter.unusedSimpArgs false
namespace Go.Proofs.YtmconajkgjfplaaGreat
open Go.RowKit
set_option linter.unusedVariables false
set_option linter.unusedSimpArgs false

/-- A relation's two headers. -/
structure RH where
  c : HD
  l : HD
  deriving Inhabited
def RH.enc (h : RH) : List Value := [h.c.v, h.l.v]
theorem RH.one : ∀ x : RH, ∀ u ∈ RH.enc x, u.oneCell' = true := fun x u hu => by
  simp only [RH.enc, List.mem_cons, List.not_mem_nil, or_false] at hu
  rcases hu with rfl | rfl <;> rfl
theorem infoRH : (Tryz.prog.info? 25).map (fun i => (i.zero, i.size, i.bytes)) = some (some (.agg #[.slice none 0 0, .slice none 0 0]), 2, 48) := by kernel_rfl
abbrev OwnRH := Own RH.enc 25 2
/-- A relation whose blocks are in a .. b, all its own. -/
structure RelO (a b : Nat) (W : World) (h : RH) (cols : List S) (rows : List (List V)) : Prop where
  cols : OwnT a W h.c.v cols
  colb : ∀ g, h.c.v.ownBlock = some g → g < b
  rows : ∃ hs, OwnR a W h.l.v hs rows ∧ (∀ g, h.l.v.ownBlock = some g → g < b) ∧ ∀ u ∈ hs, ∀ g, u.ownBlock = some g → g < b
theorem RelO.agree {a b : Nat} {W W' : World} {h : RH} {cols : List S} {rows : List (List V)} (H : RelO a b W h cols rows) (ha : Agree a b W W') : RelO a b W' h cols rows := by
  obtain ⟨hs, h1, h2, h3⟩ := H.rows
  refine ⟨Own.same H.cols (fun g e => ha g (Own.lt H.cols g e).1 (H.colb g e)), H.colb, hs, ⟨Own.same h1.own (fun g e => ha g (Own.lt h1.own g e).1 (h2 g e)), h1.len, fun i hi hi2 => Own.same (h1.row i hi hi2) (fun g e => ha g (Own.lt (h1.row i hi hi2) g e).1 (h3 _ (List.getElem_mem hi) g e)), h1.apart⟩, h2, h3⟩
theorem RelO.made {a : Nat} {W : World} {h : RH} {cols : List S} {hs : List Value} {rows : List (List V)} (hc : OwnT a W h.c.v cols) (hr : OwnR a W h.l.v hs rows) : RelO a W.heap.size W h cols rows := by
  refine ⟨hc, fun g e => (Own.lt hc g e).2, hs, hr, fun g e => (Own.lt hr.own g e).2, fun u hu g e => ?_⟩
  obtain ⟨i, hi, rfl⟩ := List.getElem_of_mem hu
  exact (Own.lt (hr.row i hi (by rw [← hr.len]; exact hi)) g e).2
/-- Relations of the same columns, in a slice of a call's own. -/
def RLs (lo : Nat) (W : World) (v : Value) (cols : List S) (rs : List (List (List V))) : Prop :=
  ∃ (hs : List RH) (bs : List (Nat × Nat)), hs.length = rs.length ∧ bs.length = rs.length ∧ OwnRH lo W v hs ∧ bs.Pairwise (fun p q => p.2 ≤ q.1) ∧
    ∀ i (h1 : i < hs.length) (h2 : i < bs.length) (h3 : i < rs.length), lo ≤ bs[i].1 ∧ bs[i].2 ≤ W.heap.size ∧ RelO bs[i].1 bs[i].2 W hs[i] cols rs[i] ∧ ∀ g, v.ownBlock = some g → g < bs[i].1 ∨ bs[i].2 ≤ g
theorem RLs.nil (lo : Nat) (W : World) (cols : List S) : RLs lo W (.slice none 0 0) cols [] := ⟨[], [], rfl, rfl, Own.nil _ _ _ _ _, List.Pairwise.nil, fun i h => absurd h (Nat.not_lt_zero _)⟩
theorem RLs.slice {lo : Nat} {W : World} {v : Value} {cols : List S} {rs : List (List (List V))} (h : RLs lo W v cols rs) : ∃ p c, v = .slice p rs.length c := by
  obtain ⟨hs, bs, hl, -, ho, -⟩ := h
  obtain ⟨p, c, e⟩ := Own.slice ho
  exact ⟨p, c, by rw [e, hl]⟩
theorem RLs.lt {lo : Nat} {W : World} {v : Value} {cols : List S} {rs : List (List (List V))} (h : RLs lo W v cols rs) : ∀ k, v.ownBlock = some k → lo ≤ k ∧ k < W.heap.size := by
  obtain ⟨hs, bs, -, -, ho, -⟩ := h
  exact Own.lt ho
theorem RLs.ne_def {lo : Nat} {W : World} {v : Value} {cols : List S} {rs : List (List (List V))} (h : RLs lo W v cols rs) {D : Nat} {o : Obj} (hb : W.heap[D]? = some o) (hc : o.isCells = false) : v.ownBlock ≠ some D := by
  obtain ⟨hs, bs, -, -, ho, -⟩ := h
  exact Own.ne_def ho hb hc
theorem RLs.keptOnly {A : Nat → Prop} {lo : Nat} {W W' : World} {v : Value} {cols : List S} {rs : List (List (List V))} (h : RLs lo W v cols rs) (hO : Only A W W') (hA : ∀ b, A b → b < lo) : RLs lo W' v cols rs := by
  obtain ⟨hs, bs, hl, hbl, ho, hp, hi⟩ := h
  refine ⟨hs, bs, hl, hbl, Own.same ho (fun g e => hO.block g (Own.lt ho g e).2 (fun hz => by have := hA g hz; have := (Own.lt ho g e).1; omega)), hp, fun i h1 h2 h3 => ?_⟩
  obtain ⟨k1, k2, k3, k4⟩ := hi i h1 h2 h3
  exact ⟨k1, Nat.le_trans k2 hO.size, k3.agree (fun b hb1 hb2 => hO.block b (by omega) (fun hz => by have := hA b hz; omega)), k4⟩
theorem RLs.kept {lo : Nat} {W W' : World} {v : Value} {cols : List S} {rs : List (List (List V))} (h : RLs lo W v cols rs) (hB : Below W.heap.size W W') : RLs lo W' v cols rs :=
  h.keptOnly (Below.only (A := fun _ => False) hB) (fun _ h => h.elim)
/-- One relation more. -/
theorem RLs.snoc {lo : Nat} {W W1 : World} {v : Value} {cols : List S} {rs : List (List (List V))} (h : RLs lo W v cols rs) (hlo : lo ≤ W.heap.size) (hB : Below W.heap.size W W1) (r : RH) {hs2 : List Value} {rows : List (List V)} (hc : OwnT W.heap.size W1 r.c.v cols) (hr : OwnR W.heap.size W1 r.l.v hs2 rows) (hb : rs.length ≤ 1000000000)
    {n : Nat} (hn : n = W1.heap.size) : ∃ v' w', (Builtin.append_ #[28, 28] 28 #[v, .slice (some ⟨n, 0, none⟩) 1 1]).run Tryz.prog (W1.alloc (.cells #[r.c.v, r.l.v] 25)) = .ok v' w' ∧ RLs lo w' v' cols (rs ++ [rows]) ∧ Appended W1 v w' v' := by
  subst hn
  have hlt0 := fun g e => (RLs.lt h g e).2
  obtain ⟨hs, bs, hl, hbl, ho0, hp, hiR⟩ := h
  have ho := Own.kept ho0 hB
  have hold : ∀ i (h1 : i < bs.length), bs[i].2 ≤ W.heap.size := fun i h1 => (hiR i (by omega) h1 (by omega)).2.1
  have hB1 := alloc_below W1 (.cells (RH.enc r).toArray 25)
  obtain ⟨i0, hi0, hz0, hz1, hz2⟩ := info_parts infoRH
  have hcell := CellsAt.newAt W1 (RH.enc r) 25 rfl
  have hsr : Src Tryz.prog 2 28 (.slice (some ⟨W1.heap.size, 0, none⟩) 1 1) [r].length ([r].flatMap RH.enc) (W1.alloc (.cells (RH.enc r).toArray 25)) :=
    Src.ofSlice _ Tryz.underlying28 _ _ _ _ (by simp [RH.enc]) (fun j u hu => by rw [Addr.add_lit]; exact hcell j u (by simpa using hu)) (fun u hu => by
      rw [List.flatMap_cons, List.flatMap_nil, List.append_nil] at hu
      exact RH.one _ u hu)
  have hz := hB.size
  obtain ⟨v', w', hrun, ho', hap⟩ := (Own.kept ho hB1).app _ _ _ i0 _ 48 Tryz.underlying28 hi0 hz0 hz1 hz2 rfl hsr (by simp only [List.length_cons, List.length_nil]; omega) (by omega) (Nat.le_trans (Nat.le_trans hlo hz) hB1.size)
  have hapw := (Appended.step v hB1).trans hap
  have hzw : W1.heap.size ≤ w'.heap.size := hapw.grown.size
  have hvold : ∀ g, v.ownBlock = some g → g < W.heap.size := hlt0
  have hgn : ∀ a b, b ≤ W1.heap.size → (∀ g, v.ownBlock = some g → g < a ∨ b ≤ g) → ∀ g, v'.ownBlock = some g → g < a ∨ b ≤ g := fun a b hb2 hg g e => by
    rcases hapw.moved with e2 | ⟨q, e2, hq⟩
    · exact hg g (e2 ▸ e)
    · rw [e2] at e; injection e with e; subst e; exact .inr (by omega)
  refine ⟨v', w', hrun, ⟨hs ++ [r], bs ++ [(W.heap.size, W1.heap.size)], by simp [hl], by simp [hbl], ho', ?_, fun i h1 h2 h3 => ?_⟩, hapw⟩
  · rw [List.pairwise_append]
    refine ⟨hp, List.pairwise_singleton _ _, fun p hp1 q hq => ?_⟩
    rw [List.mem_singleton] at hq
    subst hq
    obtain ⟨i, hi, rfl⟩ := List.getElem_of_mem hp1
    exact hold i hi
  · by_cases hlt : i < hs.length
    · simp only [List.getElem_append_left hlt, List.getElem_append_left (show i < bs.length by omega), List.getElem_append_left (show i < rs.length by omega)]
      obtain ⟨k1, k2, k3, k4⟩ := hiR i hlt (by omega) (by omega)
      exact ⟨k1, by omega, (k3.agree (.below hB k2)).agree (hapw.agree (by omega) (fun k e => k4 k e)), hgn _ _ (by omega) k4⟩
    · have e1 : i = hs.length := by rw [List.length_append, List.length_singleton] at h1; omega
      subst e1
      have a1 : (hs ++ [r])[hs.length] = r := by simp
      have a2 : (bs ++ [(W.heap.size, W1.heap.size)])[hs.length]'h2 = (W.heap.size, W1.heap.size) := by
        rw [List.getElem_append_right (by omega)]
        simp
      have a3 : (rs ++ [rows])[hs.length]'h3 = rows := by
        rw [List.getElem_append_right (by omega)]
        simp
      have hnew : RelO W.heap.size W1.heap.size W1 r cols rows := RelO.made hc hr
      have := hnew.agree (hapw.agree (Nat.le_refl _) (fun k e => .inl (hvold k e)))
      simp only [a1, a2, a3]
      exact ⟨hlo, hzw, this, hgn _ _ (Nat.le_refl _) (fun g e => .inl (hvold g e))⟩
end Go.Proofs.YtmconajkgjfplaaGreat
end

/- fold.Groups. (Printed by fldh.py.) -/
section
set_option linter.unusedVariables false
set_option linter.unusedSimpArgs false
namespace Go.Proofs.YtmconajkgjfplaaGreat
open Go.RowKit Go.Shelf
set_option linter.unusedVariables false
set_option linter.unusedSimpArgs false
attribute [local go_sem] Oper.semAt_some

theorem RLs.lower {lo lo' : Nat} {W : World} {v : Value} {cols : List S} {rs : List (List (List V))} (h : RLs lo W v cols rs) (hl : lo' ≤ lo) : RLs lo' W v cols rs := by
  obtain ⟨hs, bs, h1, h2, ho, hp, hi⟩ := h
  exact ⟨hs, bs, h1, h2, Own.lower ho hl, hp, fun i q1 q2 q3 => ⟨Nat.le_trans hl (hi i q1 q2 q3).1, (hi i q1 q2 q3).2⟩⟩
theorem CellsAt.turn {W W' : World} {b o : Nat} {cs : List Value} (h : CellsAt W b o cs) (hne : 0 < cs.length) {L : Nat} {ob : Obj} (hl : W.heap[L]? = some ob) (hc : ob.isCells = false) (hO : Only (· = L) W W') : CellsAt W' b o cs := by
  have hbl : b ≠ L := by
    rintro rfl
    have := h 0 _ (List.getElem?_eq_getElem hne)
    simp only [World.cell?, hl] at this
    cases ob <;> first | (simp at this; done) | cases hc
  have hlt : b < W.heap.size := by
    by_cases hb : b < W.heap.size
    · exact hb
    · have := h 0 _ (List.getElem?_eq_getElem hne)
      simp only [World.cell?, Array.getElem?_eq_none (show W.heap.size ≤ b by omega)] at this
      cases this
  intro j u hu
  have h1 := h j u hu
  have h2 := hO.block b hlt hbl
  simp only [World.cell?] at h1 ⊢
  rw [h2]
  exact h1
theorem Sl.turn {α : Type} {enc : α → List Value} {size lo hi : Nat} {W W' : World} {v : Value} {xs : List α} (h : Sl (flat enc) size lo hi W v xs) (hs : 0 < size) {L : Nat} {ob : Obj} (hl : W.heap[L]? = some ob) (hc : ob.isCells = false) (hO : Only (· = L) W W') : Sl (flat enc) size lo hi W' v xs := by
  obtain ⟨ao, cap, e, h1, h2, h3, h4⟩ := h
  refine ⟨ao, cap, e, h1, h2, h3, fun hne => ?_⟩
  obtain ⟨b, off, e, q1, q2, q3⟩ := h4 hne
  exact ⟨b, off, e, q1, q2, fun k hk => by
    obtain ⟨cs, c1, c2, c3⟩ := q3 k hk
    exact ⟨cs, c1, c2.turn (by omega) hl hc hO, c3⟩⟩
theorem Rws.turn {lo hi : Nat} {W W' : World} {v : Value} {xs : List (List V)} (h : Rws lo hi W v xs) {L : Nat} {ob : Obj} (hl : W.heap[L]? = some ob) (hc : ob.isCells = false) (hO : Only (· = L) W W') : Rws lo hi W' v xs := by
  obtain ⟨ao, cap, e, h1, h2, h3, h4⟩ := h
  refine ⟨ao, cap, e, h1, h2, h3, fun hne => ?_⟩
  obtain ⟨b, off, e, q1, q2, q3⟩ := h4 hne
  exact ⟨b, off, e, q1, q2, fun k hk => by
    obtain ⟨cs, c1, c2, sv, c3, c4⟩ := q3 k hk
    exact ⟨cs, c1, c2.turn (by omega) hl hc hO, sv, c3, Sl.turn c4 (by omega) hl hc hO⟩⟩
/-- The groups of a relation, or the error. -/
def grpErr (rc : List S) (l : List (List V)) (cols : List S) : Int := if rightB rc l cols then 0 else 2
def grpK (rc cols : List S) (x : List V) : List V := pickL x (placesL cols rc)
def grpL (rc : List S) (l : List (List V)) (cols : List S) : List (List (List V)) := (keysL (grpK rc cols) l).map (withK (grpK rc cols) l)
end Go.Proofs.YtmconajkgjfplaaGreat
end

/- The document's place and once, of the folds. -/
section
set_option linter.unusedVariables false
set_option linter.unusedSimpArgs false
namespace Go.Proofs.YtmconajkgjfplaaGreat
open Go.RowKit
set_option linter.unusedVariables false
set_option linter.unusedSimpArgs false
set_option maxRecDepth 100000 in
set_option maxHeartbeats 2000000 in
theorem place16_any (lo hi : Nat) (l : List S) (c : S) (v : Value) (w : World) (hv : Strs lo hi w v l) (R : Ending → World → Prop) (hR : R (.returned (.int .i64 (placeI l c))) w) :
    Calls Tryz.prog 41 #[v, .string ⟨c.toArray⟩] w R := by
  have HR := Lib.hid hR
  obtain ⟨ao, cap, rfl, -, hcm, -, hc⟩ := hv.form
  have Hc := Lib.hid hc
  have hlen := hv.len
  clear hR hv hc
  go_enter Tryz.func41, Tryz.ntmps41
  go_wp2_with fail
  go_loop [5] (fun t5 => ∃ k : Nat, k ≤ l.length ∧ t5 = .int .i64 k ∧ ∀ i, i < k → l.getD i [] ≠ c) (fun t5 => l.length - (intOf t5).toNat)
  case atStart => exact ⟨0, Nat.zero_le _, rfl, fun i h => absurd h (Nat.not_lt_zero _)⟩
  case round =>
    obtain ⟨k, hk, rfl, hno⟩ := hrel
    have Hno := Lib.hid hno
    clear hno
    have kk0 : (0 : Int) ≤ (k : Int) := by omega
    by_cases hlt : k < l.length
    · obtain ⟨b, off, rfl, hb1, hb2, hcc⟩ := Hc.out k hlt
      obtain ⟨cs, _, hcs, rfl⟩ := hcc k hlt
      have g0 := hcs.c1
      rw [Nat.mul_one] at g0
      have kkl : (k : Int) < (l.length : Int) := by omega
      have Hx : Hid (l.getD k [] = l[k]) := Lib.hid (getDS l _ k hlt)
      have Hhit : Hid (l[k] = c → placeI l c = k) := Lib.hid (fun h => placeI_hit hlt h Hno.out)
      clear hcs hcc
      generalize l[k] = y at *
      by_cases he : y = c
      · have hr := HR.out
        rw [Hhit.out he] at hr
        subst he
        go_wp2_with fail
        first | exact hr | exact fin hr rfl
      · have he2 : (y == c) = false := by simpa using he
        have he3 : (c == y) = false := by simp; exact fun h => he h.symm
        have Hne := Lib.hid he
        clear he
        go_wp2_with fail
        go_round
        case rel => exact ⟨k + 1, by omega, by go_num, fun i hi => by
          by_cases e : i = k
          · subst e; rw [Hx.out]; exact Hne.out
          · exact Hno.out i (by omega)⟩
        case measure => simp [intOf]; omega
    · obtain rfl : k = l.length := by omega
      have hr := HR.out
      rw [placeI_no Hno.out] at hr
      go_wp2_with fail
      first | exact hr | exact fin hr rfl
def onceNAt (l : List S) (i : Nat) : Bool := placeI l (l.getD i []) == i
def onceN (l : List S) : Bool := (List.range l.length).all (onceNAt l)
theorem onceN_yes {l : List S} (h : ∀ i, i < l.length → onceNAt l i = true) : onceN l = true := by
  unfold onceN
  rw [List.all_eq_true]
  exact fun i hi => h i (List.mem_range.1 hi)
theorem onceN_no {l : List S} {i : Nat} (hi : i < l.length) (h : onceNAt l i = false) : onceN l = false := by
  cases hq : onceN l
  · rfl
  · unfold onceN at hq
    rw [List.all_eq_true] at hq
    rw [hq i (List.mem_range.2 hi)] at h
    cases h
set_option maxRecDepth 100000 in
set_option maxHeartbeats 2000000 in
theorem once16_any (lo hi : Nat) (l : List S) (v : Value) (w : World) (hv : Strs lo hi w v l) (R : Ending → World → Prop) (hR : R (.returned (.bool (onceN l))) w) :
    Calls Tryz.prog 42 #[v] w R := by
  have HR := Lib.hid hR
  have Hv := Lib.hid hv
  obtain ⟨ao, cap, rfl, -, hcm, -, hc⟩ := hv.form
  have Hc := Lib.hid hc
  have hlen := hv.len
  clear hR hv hc
  go_enter Tryz.func42, Tryz.ntmps42
  go_wp2_with fail
  go_loop [3] (fun t3 => ∃ k : Nat, k ≤ l.length ∧ t3 = .int .i64 k ∧ ∀ i, i < k → onceNAt l i = true) (fun t3 => l.length - (intOf t3).toNat)
  case atStart => exact ⟨0, Nat.zero_le _, rfl, fun i h => absurd h (Nat.not_lt_zero _)⟩
  case round =>
    obtain ⟨k, hk, rfl, hno⟩ := hrel
    have Hno := Lib.hid hno
    clear hno
    have kk0 : (0 : Int) ≤ (k : Int) := by omega
    by_cases hlt : k < l.length
    · obtain ⟨b, off, rfl, hb1, hb2, hcc⟩ := Hc.out k hlt
      obtain ⟨cs, _, hcs, rfl⟩ := hcc k hlt
      have g0 := hcs.c1
      rw [Nat.mul_one] at g0
      have kkl : (k : Int) < (l.length : Int) := by omega
      have Hx : Hid (l.getD k [] = l[k]) := Lib.hid (getDS l _ k hlt)
      clear hcs hcc
      generalize l[k] = y at *
      go_wp2_with fail
      refine place16_any lo hi l y _ w Hv.out _ ?_
      by_cases hp : placeI l y = k
      · have c1 : (placeI l y != (k : Int)) = false := by simp [hp]
        have Hat : Hid (onceNAt l k = true) := Lib.hid (by unfold onceNAt; rw [Hx.out, hp]; simp)
        clear hp
        go_wp2_with fail
        go_round
        case rel => exact ⟨k + 1, by omega, by go_num, fun i hi => by
          by_cases e : i = k
          · subst e; exact Hat.out
          · exact Hno.out i (by omega)⟩
        case measure => simp [intOf]; omega
      · have c1 : (placeI l y != (k : Int)) = true := by simp [hp]
        have hr := HR.out
        rw [onceN_no hlt (by unfold onceNAt; rw [Hx.out]; simp [hp])] at hr
        clear hp
        go_wp2_with fail
        first | exact hr | exact fin hr rfl
    · obtain rfl : k = l.length := by omega
      have hr := HR.out
      rw [onceN_yes Hno.out] at hr
      go_wp2_with fail
      first | exact hr | exact fin hr rfl
theorem onceN_nodup {l : List S} : onceN l = true ↔ l.Nodup := by
  rw [List.nodup_iff_pairwise_ne]
  constructor
  · intro h
    unfold onceN at h
    rw [List.all_eq_true] at h
    rw [List.pairwise_iff_getElem]
    intro i j hi hj hij e
    have h1 := h i (List.mem_range.2 hi)
    have h2 := h j (List.mem_range.2 hj)
    unfold onceNAt at h1 h2
    rw [getDS l _ i hi, beq_iff_eq] at h1
    rw [getDS l _ j hj, beq_iff_eq, ← e, h1] at h2
    omega
  · intro h
    rw [List.pairwise_iff_getElem] at h
    refine onceN_yes (fun i hi => ?_)
    unfold onceNAt
    rw [getDS l _ i hi, beq_iff_eq]
    refine placeI_hit hi rfl (fun j hj e => ?_)
    rw [getDS l _ j (by omega)] at e
    exact h j i (by omega) hi hj e
/-- Within a relation that may be, columns that are each there once are few enough. -/
theorem onceN_right {rc cols : List S} {l : List (List V)} : (mayRel rc l && onceN cols && withinB cols rc) = rightB rc l cols := by
  unfold rightB
  cases hm : mayRel rc l
  · simp
  · cases hw : withinB cols rc
    · simp
    · simp only [Bool.true_and, Bool.and_true]
      rw [Bool.eq_iff_iff, onceN_nodup]
      constructor
      · intro hn
        have hat := within_at hw
        refine once_of hn (Nat.le_trans (nodup_len_le hn (fun c hc => ?_)) (once_len (may_once hm)))
        obtain ⟨k, hk, rfl⟩ := List.getElem_of_mem hc
        exact place_mem_iff.1 (hat k hk)
      · exact once_nodup
end Go.Proofs.YtmconajkgjfplaaGreat
end

/- The document's right, of the folds. (Printed by fldj.py.) -/
section
set_option linter.unusedVariables false
set_option linter.unusedSimpArgs false
namespace Go.Proofs.YtmconajkgjfplaaGreat
open Go.RowKit
set_option linter.unusedVariables false
set_option linter.unusedSimpArgs false
attribute [local go_sem ↓] Go.wp_at_zero Go.wp_at_succ
set_option maxRecDepth 100000 in
set_option maxHeartbeats 4000000 in
theorem right16_any (lo hi lc hc l2 h2 : Nat) (rc : List S) (ac : Option Addr) (cc : Nat) (l : List (List V)) (lv : Value) (cols : List S) (cv : Value) (w : World) (hrc : Strs lc hc w (.slice ac rc.length cc) rc) (hhc : hc ≤ w.heap.size) (hv : Rws lo hi w lv l) (hhi : hi ≤ w.heap.size) (hcols : Strs l2 h2 w cv cols) (hh2 : h2 ≤ w.heap.size) (hrs : ∀ x ∈ l, ∀ a ∈ x, a.s.length ≤ 9223372036854775807) (R : Ending → World → Prop)
    (hR : ∀ w', Below w.heap.size w w' → R (.returned (.bool (rightB rc l cols))) w') :
    Calls Tryz.prog 40 #[.agg #[.slice ac rc.length cc, lv], cv] w R := by
  have HR := Lib.hid hR
  have Hv := Lib.hid hv
  have Hrc := Lib.hid hrc
  have Ho := Lib.hid hcols
  have Hrs := Lib.hid hrs
  obtain ⟨av, av2, rfl, -, -, -, -⟩ := hv.form
  obtain ⟨ak, ck, rfl, -, -, -, -⟩ := hcols.form
  have hol := hcols.len
  have hrl := hrc.len
  clear hR hv hrc hcols hrs
  have hB1 := alloc_below w (.cells #[.slice ac rc.length cc, .slice av l.length av2] 50)
  have hb1 := Blk.new w [.slice ac rc.length cc, .slice av l.length av2] 50 rfl
  go_enter Tryz.func40, Tryz.ntmps40
  go_upto_region 1 with fail
  generalize w.alloc (.cells #[.slice ac rc.length cc, .slice av l.length av2] 50) = w1 at *
  have HB1 := Lib.hid hB1
  have Hb1 := Lib.hid hb1
  have hz1 := hB1.size
  have hl1 := hb1.lt
  obtain ⟨c0, c1⟩ := hb1.cells.c2
  simp only [Nat.zero_add] at c1
  clear hB1 hb1
  go_wp2_with fail
  refine refMay_any lo hi lc hc rc _ _ l _ w1 (Sl.below Hrc.out Strs.loc HB1.out hhc) (by omega) (Sl.below Hv.out rowE_loc HB1.out hhi) (by omega) Hrs.out _ (fun w2 hB2 => ?_)
  have HB2 := Lib.hid (HB1.out.trans (hB2.mono hz1))
  have Hb2 := Lib.hid (Hb1.out.below hB2 hl1)
  have hz2 := hB2.size
  clear hB2 c0 c1
  have Hq := Lib.hid (onceN_right (rc := rc) (cols := cols) (l := l))
  go_wp2_with fail
  refine once16_any l2 h2 cols _ w2 (Sl.below Ho.out Strs.loc HB2.out hh2) _ ?_
  cases hm : mayRel rc l
  · have hr := HR.out w2 HB2.out
    rw [← Hq.out, hm] at hr
    simp only [Bool.false_and] at hr
    go_wp2_with fail
    first | exact hr | exact fin hr rfl
  have Hm := Lib.hid hm
  clear hm
  cases hon : onceN cols
  · have hr := HR.out w2 HB2.out
    rw [← Hq.out, hon, Hm.out] at hr
    simp only [Bool.true_and, Bool.false_and] at hr
    go_wp2_with fail
    first | exact hr | exact fin hr rfl
  have Hon := Lib.hid hon
  clear hon
  go_wp2_with fail
  go_loopw [7] (fun t7 wr => ∃ (k : Nat), k ≤ cols.length ∧ t7 = .int .i64 k ∧ Hid (∀ i (hi : i < cols.length), i < k → 0 ≤ placeI rc cols[i]) ∧ Below w.heap.size w wr ∧ Blk wr w.heap.size [.slice ac rc.length cc, .slice av l.length av2] 50) (fun t7 _ => cols.length - (intOf t7).toNat)
  case atStart => exact ⟨0, Nat.zero_le _, rfl, Lib.hid (fun i _ h => absurd h (Nat.not_lt_zero _)), HB2.out, Hb2.out⟩
  case round =>
    obtain ⟨k, hk, rfl, Hpl, hB, hbk⟩ := hrel
    obtain ⟨wo, ewo⟩ : ∃ x, x = wr := ⟨_, rfl⟩
    subst ewo
    have HB := Lib.hid hB
    have Hbk := Lib.hid hbk
    have hz := hB.size
    have hlk := hbk.lt
    have kk0 : (0 : Int) ≤ (k : Int) := by omega
    clear hB hbk
    by_cases hlt : k < cols.length
    · have kkl : (k : Int) < (cols.length : Int) := by omega
      obtain ⟨b, o, rfl, hb, hat⟩ := Strs.at (Sl.below Ho.out Strs.loc HB.out hh2) (by omega) (by omega)
      have g0 := hat k hlt wo (Below.refl _ _)
      have Hneg : Hid (placeI rc cols[k] < 0 → rightB rc l cols = false) := Lib.hid (fun h => by unfold rightB; rw [within_no hlt h]; simp)
      have Hnn : Hid (¬ placeI rc cols[k] < 0 → ∀ i (hi : i < cols.length), i < k + 1 → 0 ≤ placeI rc cols[i]) := Lib.hid (fun h i hi h2 => by
        by_cases e : i = k
        · subst e; omega
        · exact Hpl.out i hi (by omega))
      have G0 := Lib.hid g0
      clear hat g0
      generalize cols[k] = c at *
      go_wp2_with fail
      refine wp_region_held_drew (S := fun w' => w' = wo.drew) (by kernel_rfl) rfl (fun hHeld => ?_)
      refine wpAnyH_take (i := 0) (v := .pointer (some ⟨w.heap.size, 0, none⟩)) rfl (by kernel_rfl) (by kernel_rfl) (by kernel_rfl) (fun _ _ _ h => h) (Or.inl ⟨by rfl, ?_⟩) hHeld ?_
      · intro w' hSw; subst hSw; go_simp <;> omega
      try simp only [Act.put, List.getElem_toArray, List.getElem_cons_succ, List.getElem_cons_zero, List.setIfInBounds_toArray, List.set_cons_zero, List.set_cons_succ]
      refine wpAnyH_take (i := 1) (v := .slice ac rc.length cc) rfl (by kernel_rfl) (by kernel_rfl) (by kernel_rfl) (fun _ _ _ h => h) (Or.inl ⟨by rfl, ?_⟩) hHeld ?_
      · intro w' hSw; subst hSw; have kx := Hbk.out.cells.c2.1; go_simp
      try simp only [Act.put, List.getElem_toArray, List.getElem_cons_succ, List.getElem_cons_zero, List.setIfInBounds_toArray, List.set_cons_zero, List.set_cons_succ]
      refine wpAnyH_take (i := 2) (v := .slice (some ⟨b, o, none⟩) cols.length ck) rfl (by kernel_rfl) (by kernel_rfl) (by kernel_rfl) (fun _ _ _ h => h) (Or.inl ⟨by rfl, ?_⟩) hHeld ?_
      · intro w' hSw; subst hSw; go_simp <;> omega
      try simp only [Act.put, List.getElem_toArray, List.getElem_cons_succ, List.getElem_cons_zero, List.setIfInBounds_toArray, List.set_cons_zero, List.set_cons_succ]
      refine wpAnyH_take (i := 3) (v := .int .i64 ((k : Int))) rfl (by kernel_rfl) (by kernel_rfl) (by kernel_rfl) (fun _ _ _ h => h) (Or.inl ⟨by rfl, ?_⟩) hHeld ?_
      · intro w' hSw; subst hSw; go_simp <;> omega
      try simp only [Act.put, List.getElem_toArray, List.getElem_cons_succ, List.getElem_cons_zero, List.setIfInBounds_toArray, List.set_cons_zero, List.set_cons_succ]
      refine wpAnyH_take (i := 4) (v := .pointer (some ⟨b, o + k, none⟩)) rfl (by kernel_rfl) (by kernel_rfl) (by kernel_rfl) (fun _ _ _ h => h) (Or.inl ⟨by rfl, ?_⟩) hHeld ?_
      · intro w' hSw; subst hSw; go_simp <;> omega
      try simp only [Act.put, List.getElem_toArray, List.getElem_cons_succ, List.getElem_cons_zero, List.setIfInBounds_toArray, List.set_cons_zero, List.set_cons_succ]
      refine wpAnyH_take (i := 5) (v := .string ⟨c.toArray⟩) rfl (by kernel_rfl) (by kernel_rfl) (by kernel_rfl) (fun _ _ _ h => h) (Or.inl ⟨by rfl, ?_⟩) hHeld ?_
      · intro w' hSw; subst hSw; have kx := G0.out; go_simp
      try simp only [Act.put, List.getElem_toArray, List.getElem_cons_succ, List.getElem_cons_zero, List.setIfInBounds_toArray, List.set_cons_zero, List.set_cons_succ]
      refine wpAnyH_ready (rs := [6]) (by kernel_rfl) (by simp) ?_
      refine allCall (f := 41) (args := #[.slice ac rc.length cc, .string ⟨c.toArray⟩]) rfl (by kernel_rfl) (by kernel_rfl) ?_ AllReadyH.nil
      refine place16_any lc hc rc c _ wo.drew (Sl.below Hrc.out Strs.loc HB.out.drew hhc) _ ?_
      refine ⟨_, rfl, rfl, ?_⟩
      try simp only [Act.put, List.getElem_toArray, List.getElem_cons_succ, List.getElem_cons_zero, List.setIfInBounds_toArray, List.set_cons_zero, List.set_cons_succ]
      refine wpAnyH_take (i := 7) (v := .int .i64 ((placeI rc c))) rfl (by kernel_rfl) (by kernel_rfl) (by kernel_rfl) (fun _ _ _ h => h) (Or.inl ⟨by rfl, ?_⟩) hHeld ?_
      · intro w' hSw; subst hSw; go_simp <;> omega
      try simp only [Act.put, List.getElem_toArray, List.getElem_cons_succ, List.getElem_cons_zero, List.setIfInBounds_toArray, List.set_cons_zero, List.set_cons_succ]
      refine wpAnyH_done (by kernel_rfl) ?_ _
      clear hHeld
      have HBd : Hid (Below w.heap.size w wo.drew) := Lib.hid HB.out.drew
      have Hbd : Hid (Blk wo.drew w.heap.size [.slice ac rc.length cc, .slice av l.length av2] 50) := Lib.hid Hbk.out.drew
      generalize wo.drew = wd at *
      by_cases hneg : placeI rc c < 0
      · have hr := HR.out wd HBd.out
        rw [Hneg.out hneg] at hr
        generalize placeI rc c = pc at *
        go_wp2_with fail
        first | exact hr | exact fin hr rfl
      · have hn2 := Hnn.out (by omega)
        have Hn2 := Lib.hid hn2
        clear hn2
        generalize placeI rc c = pc at *
        go_wp2_with fail
        go_roundw
        case rel => exact ⟨k + 1, by omega, by go_num, Hn2, HBd.out, Hbd.out⟩
        case measure => simp [intOf]; omega
    · obtain rfl : k = cols.length := by omega
      have hr := HR.out wo HB.out
      rw [← Hq.out, Hm.out, Hon.out, within_yes fun i hi => Hpl.out i hi hi] at hr
      simp only [Bool.true_and] at hr
      go_wp2_with fail
      first | exact hr | exact fin hr rfl
end Go.Proofs.YtmconajkgjfplaaGreat
end

/- A relation joined with one key, in plain words: the rows that have it. -/
section
set_option linter.unusedVariables false
set_option linter.unusedSimpArgs false
namespace Go.Proofs.YtmconajkgjfplaaGreat
set_option linter.unusedVariables false
set_option linter.unusedSimpArgs false
theorem rest_right {rc cols : List S} (hw : withinB cols rc = true) : restC rc cols = [] := by
  rw [List.eq_nil_iff_forall_not_mem]
  intro c hc
  obtain ⟨h1, h2⟩ := rest_mem.1 hc
  obtain ⟨k, hk, rfl⟩ := List.getElem_of_mem h1
  exact h2 (place_mem_iff.1 (within_at hw k hk))
theorem agree_key {rc cols : List S} {x key : List V} (hw : withinB cols rc = true) (ho : onceB cols = true) (hk : key.length = cols.length) : agreeR rc cols x key = (cmpR (grpK rc cols x) key == 0) := by
  rw [Bool.eq_iff_iff, agree_iff, beq_iff_eq, cmpR_cmp.zero]
  unfold grpK
  rw [pick_val]
  have e : key = cols.map (valC cols key) := (val_self ho hk).symm
  constructor
  · intro h
    rw [e, List.map_inj_left]
    intro c hc
    obtain ⟨k, hk, rfl⟩ := List.getElem_of_mem hc
    exact (h _ hc (place_mem_iff.1 (within_at hw k hk))).symm
  · intro h c hc _
    rw [e, List.map_inj_left] at h
    exact (h c hc).symm
theorem group_join {rc cols : List S} {l : List (List V)} {key : List V} (hw : withinB cols rc = true) (ho : onceB cols = true) (hk : key.length = cols.length) : joinL rc l cols [key] = withK (grpK rc cols) l key := by
  unfold joinL withK
  induction l with
  | nil => rfl
  | cons x r ih =>
    rw [List.flatMap_cons, ih, List.filter_cons, List.filter_cons, List.filter_nil, agree_key hw ho hk, rest_right hw]
    cases cmpR (grpK rc cols x) key == 0
    · rfl
    · simp [pickL, placesL]
theorem group_cols {rc cols : List S} (hw : withinB cols rc = true) : joinCols rc cols = rc := by
  unfold joinCols
  rw [rest_right hw, List.append_nil]
theorem key_may {cols : List S} {key : List V} (ho : onceB cols = true) (hk : key.length = cols.length) : mayRel cols [key] = true :=
  may_of ho (by simp) (fun x hx => by rw [List.mem_singleton.1 hx]; exact hk) (List.pairwise_singleton _ _)
theorem withK_len {f : List V → List V} {l : List (List V)} {k : List V} : (withK f l k).length ≤ l.length := List.length_filter_le _ _
theorem withK_up {rc : List S} {l : List (List V)} {f : List V → List V} {k : List V} (hm : mayRel rc l = true) : relCanon (withK f l k) = withK f l k :=
  canon_self cmpR_cmp (List.Pairwise.filter _ (may_up' hm))
theorem group_err {rc cols : List S} {l : List (List V)} {key : List V} (hr : rightB rc l cols = true) (hk : key.length = cols.length) : joinErr rc l cols [key] = 0 := by
  unfold rightB at hr
  simp only [Bool.and_eq_true] at hr
  obtain ⟨⟨hm, hw⟩, ho⟩ := hr
  have hc := may_many hm
  unfold joinErr
  rw [hm, key_may ho hk]
  simp only [Bool.and_self, if_true]
  refine madeErr_ok ?_ ?_
  · rw [group_cols hw]; exact hc.2
  · rw [group_join hw ho hk, withK_up hm]
    have := withK_len (f := grpK rc cols) (l := l) (k := key)
    omega
theorem keys_len {rc cols : List S} {l : List (List V)} : ∀ k ∈ keysL (grpK rc cols) l, k.length = cols.length := by
  intro k hk
  obtain ⟨x, -, rfl⟩ := List.mem_map.1 ((canon_mem cmpR_cmp _ _).1 hk)
  exact pick_len' _ _ _
end Go.Proofs.YtmconajkgjfplaaGreat
end

/- The document's relations of a call's own, one behind the other, in a slice of its own (XFldG's twin). -/
section
set_option linter.unusedVariables false
set_option linter.unusedSimpArgs false
namespace Go.Proofs.YtmconajkgjfplaaGreat
open Go.RowKit
set_option linter.unusedVariables false
set_option linter.unusedSimpArgs false
theorem infoQH : (Tryz.prog.info? 50).map (fun i => (i.zero, i.size, i.bytes)) = some (some (.agg #[.slice none 0 0, .slice none 0 0]), 2, 48) := by kernel_rfl
abbrev OwnQH := Own RH.enc 50 2
/-- A relation whose blocks are in a .. b. -/
structure RelS (a b : Nat) (W : World) (h : RH) (cols : List S) (rows : List (List V)) : Prop where
  cols : Strs a b W h.c.v cols
  rows : Rws a b W h.l.v rows
theorem RelS.agree {a b : Nat} {W W' : World} {h : RH} {cols : List S} {rows : List (List V)} (H : RelS a b W h cols rows) (ha : Agree a b W W') : RelS a b W' h cols rows :=
  ⟨Sl.agree H.cols Strs.loc ha, Sl.agree H.rows rowE_loc ha⟩
/-- Relations of the same columns, in a slice of a call's own. -/
def QLs (lo : Nat) (W : World) (v : Value) (cols : List S) (rs : List (List (List V))) : Prop :=
  ∃ (hs : List RH) (bs : List (Nat × Nat)), hs.length = rs.length ∧ bs.length = rs.length ∧ OwnQH lo W v hs ∧ bs.Pairwise (fun p q => p.2 ≤ q.1) ∧
    ∀ i (h1 : i < hs.length) (h2 : i < bs.length) (h3 : i < rs.length), lo ≤ bs[i].1 ∧ bs[i].2 ≤ W.heap.size ∧ RelS bs[i].1 bs[i].2 W hs[i] cols rs[i] ∧ ∀ g, v.ownBlock = some g → g < bs[i].1 ∨ bs[i].2 ≤ g
theorem QLs.nil (lo : Nat) (W : World) (cols : List S) : QLs lo W (.slice none 0 0) cols [] := ⟨[], [], rfl, rfl, Own.nil _ _ _ _ _, List.Pairwise.nil, fun i h => absurd h (Nat.not_lt_zero _)⟩
theorem QLs.slice {lo : Nat} {W : World} {v : Value} {cols : List S} {rs : List (List (List V))} (h : QLs lo W v cols rs) : ∃ p c, v = .slice p rs.length c := by
  obtain ⟨hs, bs, hl, -, ho, -⟩ := h
  obtain ⟨p, c, e⟩ := Own.slice ho
  exact ⟨p, c, by rw [e, hl]⟩
theorem QLs.lt {lo : Nat} {W : World} {v : Value} {cols : List S} {rs : List (List (List V))} (h : QLs lo W v cols rs) : ∀ k, v.ownBlock = some k → lo ≤ k ∧ k < W.heap.size := by
  obtain ⟨hs, bs, -, -, ho, -⟩ := h
  exact Own.lt ho
theorem QLs.ne_def {lo : Nat} {W : World} {v : Value} {cols : List S} {rs : List (List (List V))} (h : QLs lo W v cols rs) {D : Nat} {o : Obj} (hb : W.heap[D]? = some o) (hc : o.isCells = false) : v.ownBlock ≠ some D := by
  obtain ⟨hs, bs, -, -, ho, -⟩ := h
  exact Own.ne_def ho hb hc
theorem QLs.keptOnly {A : Nat → Prop} {lo : Nat} {W W' : World} {v : Value} {cols : List S} {rs : List (List (List V))} (h : QLs lo W v cols rs) (hO : Only A W W') (hA : ∀ b, A b → b < lo) : QLs lo W' v cols rs := by
  obtain ⟨hs, bs, hl, hbl, ho, hp, hi⟩ := h
  refine ⟨hs, bs, hl, hbl, Own.same ho (fun g e => hO.block g (Own.lt ho g e).2 (fun hz => by have := hA g hz; have := (Own.lt ho g e).1; omega)), hp, fun i h1 h2 h3 => ?_⟩
  obtain ⟨k1, k2, k3, k4⟩ := hi i h1 h2 h3
  exact ⟨k1, Nat.le_trans k2 hO.size, k3.agree (fun b hb1 hb2 => hO.block b (by omega) (fun hz => by have := hA b hz; omega)), k4⟩
theorem QLs.kept {lo : Nat} {W W' : World} {v : Value} {cols : List S} {rs : List (List (List V))} (h : QLs lo W v cols rs) (hB : Below W.heap.size W W') : QLs lo W' v cols rs :=
  h.keptOnly (Below.only (A := fun _ => False) hB) (fun _ h => h.elim)
/-- One relation more. -/
theorem QLs.snoc {lo : Nat} {W W1 : World} {v : Value} {cols : List S} {rs : List (List (List V))} (h : QLs lo W v cols rs) (hlo : lo ≤ W.heap.size) (hB : Below W.heap.size W W1) (r : RH) {rows : List (List V)} (hc : Strs W.heap.size W1.heap.size W1 r.c.v cols) (hr : Rws W.heap.size W1.heap.size W1 r.l.v rows) (hb : rs.length ≤ 1000000000)
    {n : Nat} (hn : n = W1.heap.size) : ∃ v' w', (Builtin.append_ #[82, 82] 82 #[v, .slice (some ⟨n, 0, none⟩) 1 1]).run Tryz.prog (W1.alloc (.cells #[r.c.v, r.l.v] 50)) = .ok v' w' ∧ QLs lo w' v' cols (rs ++ [rows]) ∧ Appended W1 v w' v' := by
  subst hn
  have hlt0 := fun g e => (QLs.lt h g e).2
  obtain ⟨hs, bs, hl, hbl, ho0, hp, hiR⟩ := h
  have ho := Own.kept ho0 hB
  have hold : ∀ i (h1 : i < bs.length), bs[i].2 ≤ W.heap.size := fun i h1 => (hiR i (by omega) h1 (by omega)).2.1
  have hB1 := alloc_below W1 (.cells (RH.enc r).toArray 50)
  obtain ⟨i0, hi0, hz0, hz1, hz2⟩ := info_parts infoQH
  have hcell := CellsAt.newAt W1 (RH.enc r) 50 rfl
  have hsr : Src Tryz.prog 2 82 (.slice (some ⟨W1.heap.size, 0, none⟩) 1 1) [r].length ([r].flatMap RH.enc) (W1.alloc (.cells (RH.enc r).toArray 50)) :=
    Src.ofSlice _ Tryz.underlying82 _ _ _ _ (by simp [RH.enc]) (fun j u hu => by rw [Addr.add_lit]; exact hcell j u (by simpa using hu)) (fun u hu => by
      rw [List.flatMap_cons, List.flatMap_nil, List.append_nil] at hu
      exact RH.one _ u hu)
  have hz := hB.size
  obtain ⟨v', w', hrun, ho', hap⟩ := (Own.kept ho hB1).app _ _ _ i0 _ 48 Tryz.underlying82 hi0 hz0 hz1 hz2 rfl hsr (by simp only [List.length_cons, List.length_nil]; omega) (by omega) (Nat.le_trans (Nat.le_trans hlo hz) hB1.size)
  have hapw := (Appended.step v hB1).trans hap
  have hzw : W1.heap.size ≤ w'.heap.size := hapw.grown.size
  have hvold : ∀ g, v.ownBlock = some g → g < W.heap.size := hlt0
  have hgn : ∀ a b, b ≤ W1.heap.size → (∀ g, v.ownBlock = some g → g < a ∨ b ≤ g) → ∀ g, v'.ownBlock = some g → g < a ∨ b ≤ g := fun a b hb2 hg g e => by
    rcases hapw.moved with e2 | ⟨q, e2, hq⟩
    · exact hg g (e2 ▸ e)
    · rw [e2] at e; injection e with e; subst e; exact .inr (by omega)
  refine ⟨v', w', hrun, ⟨hs ++ [r], bs ++ [(W.heap.size, W1.heap.size)], by simp [hl], by simp [hbl], ho', ?_, fun i h1 h2 h3 => ?_⟩, hapw⟩
  · rw [List.pairwise_append]
    refine ⟨hp, List.pairwise_singleton _ _, fun p hp1 q hq => ?_⟩
    rw [List.mem_singleton] at hq
    subst hq
    obtain ⟨i, hi, rfl⟩ := List.getElem_of_mem hp1
    exact hold i hi
  · by_cases hlt : i < hs.length
    · simp only [List.getElem_append_left hlt, List.getElem_append_left (show i < bs.length by omega), List.getElem_append_left (show i < rs.length by omega)]
      obtain ⟨k1, k2, k3, k4⟩ := hiR i hlt (by omega) (by omega)
      exact ⟨k1, by omega, (k3.agree (.below hB k2)).agree (hapw.agree (by omega) (fun k e => k4 k e)), hgn _ _ (by omega) k4⟩
    · have e1 : i = hs.length := by rw [List.length_append, List.length_singleton] at h1; omega
      subst e1
      have a1 : (hs ++ [r])[hs.length] = r := by simp
      have a2 : (bs ++ [(W.heap.size, W1.heap.size)])[hs.length]'h2 = (W.heap.size, W1.heap.size) := by
        rw [List.getElem_append_right (by omega)]
        simp
      have a3 : (rs ++ [rows])[hs.length]'h3 = rows := by
        rw [List.getElem_append_right (by omega)]
        simp
      have hnew : RelS W.heap.size W1.heap.size W1 r cols rows := ⟨hc, hr⟩
      have := hnew.agree (hapw.agree (Nat.le_refl _) (fun k e => .inl (hvold k e)))
      simp only [a1, a2, a3]
      exact ⟨hlo, hzw, this, hgn _ _ (Nat.le_refl _) (fun g e => .inl (hvold g e))⟩
end Go.Proofs.YtmconajkgjfplaaGreat
end

/- The document's Without. (Printed by meo.py, merf.py.) -/
section
set_option linter.unusedVariables false
set_option linter.unusedSimpArgs false
namespace Go.Proofs.YtmconajkgjfplaaGreat
open Go.RowKit
set_option linter.unusedVariables false
set_option linter.unusedSimpArgs false
attribute [local go_sem ↓] Go.wp_at_zero Go.wp_at_succ

end Go.Proofs.YtmconajkgjfplaaGreat
end
