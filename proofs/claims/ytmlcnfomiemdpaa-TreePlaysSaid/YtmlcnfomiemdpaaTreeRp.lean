/- The document's tree: Put. -/
import Derived.Test.YtmlcnfomiemdpaaTreeRc
import Derived.Test.YtmlcnfomiemdpaaSlc
namespace Go.Proofs.Ytmlcnfomiemdpaa
open Go.RowKit
attribute [local go_sem ↓] Go.wp_at_zero Go.wp_at_succ
set_option linter.unusedVariables false
set_option linter.unusedSimpArgs false

theorem insL_eq (k v : List UInt8) : ∀ (l : PL), Rises l → insL k v l = lowL k (delL k l) ++ (k, v) :: highL k (delL k l)
  | [], _ => rfl
  | (a, b) :: r, h => by
    have h' := List.pairwise_cons.1 h
    have ih := insL_eq k v r h'.2
    have hf := cmpB_flip a k
    simp only [insL]
    by_cases c1 : cmpB k a < 0
    · rw [if_pos c1]
      have e : delL k ((a, b) :: r) = (a, b) :: r := delL_all _ _ (fun x hx => by
        rcases List.mem_cons.1 hx with rfl | hx
        · simp only; omega
        · have := cmpB_trans k a x.1 c1 (h'.1 x hx)
          omega)
      have hn : ∀ x ∈ (a, b) :: r, ¬ cmpB x.1 k < 0 := fun x hx => by
        rcases List.mem_cons.1 hx with rfl | hx
        · simp only; omega
        · have h1 := cmpB_trans k a x.1 c1 (h'.1 x hx)
          have h2 := cmpB_flip x.1 k
          omega
      rw [e, show lowL k ((a, b) :: r) = [] from List.filter_eq_nil_iff.2 (fun x hx => by simpa using hn x hx), show highL k ((a, b) :: r) = (a, b) :: r from List.filter_eq_self.2 (fun x hx => by simpa using hn x hx)]
      rfl
    · rw [if_neg c1]
      by_cases c2 : 0 < cmpB k a
      · rw [if_pos c2, ih, delL_cons, if_pos (by simp only; omega)]
        have c3 : cmpB a k < 0 := by omega
        rw [show lowL k ((a, b) :: delL k r) = (a, b) :: lowL k (delL k r) from List.filter_cons_of_pos (by simpa using c3), show highL k ((a, b) :: delL k r) = highL k (delL k r) from List.filter_cons_of_neg (by simpa using c3)]
        rfl
      · rw [if_neg c2, delL_cons, if_neg (by simp only; omega)]
        have c0 : cmpB k a = 0 := by omega
        have hk : k = a := cmpB_eq k a c0
        subst hk
        have hn : ∀ x ∈ r, cmpB k x.1 < 0 := fun x hx => h'.1 x hx
        have e : delL k r = r := delL_all _ _ (fun x hx => by have := hn x hx; omega)
        have hm : ∀ x ∈ r, ¬ cmpB x.1 k < 0 := fun x hx => by
          have h1 := hn x hx
          have h2 := cmpB_flip x.1 k
          omega
        rw [e, show lowL k r = [] from List.filter_eq_nil_iff.2 (fun x hx => by simpa using hm x hx), show highL k r = r from List.filter_eq_self.2 (fun x hx => by simpa using hm x hx)]
        rfl
theorem low_take (k : List UInt8) (l : PL) (h : Rises l) : l.take (lowL k l).length = lowL k l ∧ l.drop (lowL k l).length = highL k l := by
  have e := low_high k l h
  constructor
  · conv => lhs; arg 2; rw [← e]
    exact List.take_left
  · conv => lhs; arg 2; rw [← e]
    exact List.drop_left
theorem srcR {w : World} {lo hi : Nat} {v : Value} {l : PL} (h : Rs lo hi w v l) : Src Try.prog 2 54 v l.length (l.flatMap rE) w :=
  Src.ofSl h (fun _ => rfl) (fun x u hu => by
    simp only [rE, List.mem_cons, List.not_mem_nil, or_false] at hu
    rcases hu with rfl | rfl <;> rfl) Try.underlying54
theorem uR : Try.prog.underlying 54 = some (.slice (Try.prog.elem 54)) := by kernel_rfl
theorem szR : ∀ w, (sizeOf (Try.prog.elem 54)).run Try.prog w = .ok 2 w := fun w => by kernel_rfl

set_option maxRecDepth 100000 in
set_option maxHeartbeats 4000000 in
theorem Put_ref (lo hi : Nat) (l : PL) (sv : Value) (key value : List UInt8) (w : World) (h : Rs lo hi w sv l) (hhi : hi ≤ w.heap.size) (hl : l.length ≤ 10000) (hri : Rises l) (R : Ending → World → Prop)
    (hno : (4096 < key.length ∨ 65536 < value.length) → ∀ w', Below w.heap.size w w' → R (.returned (.tuple #[.agg #[.slice none 0 0], .int .i64 100])) w')
    (hyes : key.length ≤ 4096 → value.length ≤ 65536 → ∀ w' v', Below w.heap.size w w' → OwnR w.heap.size w' v' (insL key value l) → R (.returned (.tuple #[.agg #[v'], .int .i64 0])) w') :
    Calls Try.prog 22 #[.agg #[sv], .string ⟨key.toArray⟩, .string ⟨value.toArray⟩] w R := by
  obtain ⟨ao, cap, rfl, -, -, -, -⟩ := Sl.form h
  have hB : Below w.heap.size w ((w.alloc (.cells #[.slice ao l.length cap] 56)).alloc (.cells #[.slice none 0 0] 56)) := ((Below.refl _ _).alloc (Nat.le_refl _) _).alloc (by simp) _
  have hb := (Blk.new w [.slice ao l.length cap] 56 rfl).alloc (.cells #[.slice none 0 0] 56)
  have hb2 := Blk.new (n := w.heap.size + 1) (w.alloc (.cells #[.slice ao l.length cap] 56)) [.slice none 0 0] 56 (by simp)
  have H := Lib.hid (h.low hB hhi)
  have Hri := Lib.hid hri
  have HB0 := Lib.hid hB
  have hs := hB.size
  have Hs1 := Lib.hid (show ((w.alloc (.cells #[.slice ao l.length cap] 56)).alloc (.cells #[.slice none 0 0] 56)).heap.size = w.heap.size + 2 by simp)
  have Hno := Lib.hid hno
  have Hyes := Lib.hid hyes
  have hbr0 := hb.cells.c1
  clear hno hyes h hB hri
  go_enter Try.func22, Try.ntmps22
  go_wp2_with fail
  have hhi1 := Nat.le_trans hhi hs
  generalize (w.alloc (.cells #[.slice ao l.length cap] 56)).alloc (.cells #[.slice none 0 0] 56) = w1 at *
  have Hb := Lib.hid hb
  have Hb2 := Lib.hid hb2
  clear hb hb2
  refine Has_ref lo hi l _ key w1 H.out hhi1 (by omega) Hri.out _ (fun w2 hB2 => ?_)
  have Hw2 := Lib.hid (HB0.out.trans (hB2.mono HB0.out.size))
  have H2 := Lib.hid (H.out.low hB2 hhi1)
  have hbr := Hb.out.below hB2 Hb.out.lt
  have hbr2 := Hb2.out.below hB2 Hb2.out.lt
  have cb := hbr.cells.c1
  have hs2 := hB2.size
  have Hs2 := Lib.hid (show w.heap.size + 2 ≤ w2.heap.size by have := Hs1.out; omega)
  have HB12 := Lib.hid hB2
  clear hB2 hbr0
  have f1 := hbr2.free 0
  have y1 := hbr2.cells.c1
  by_cases hk : 4096 < key.length
  · have hr := Hno.out (.inl hk) _ (Hw2.out.setCell (p := ⟨w.heap.size + 1, 0, none⟩) (Nat.le_succ _) (.slice none 0 0))
    have hres := runTree (hbr2.set 0 (.slice none 0 0)).cells
    clear hbr hbr2
    go_wp2_with fail
    exact ret_cell_tmp rfl rfl hres rfl rfl hr
  by_cases hv : 65536 < value.length
  · have hr := Hno.out (.inr hv) _ (Hw2.out.setCell (p := ⟨w.heap.size + 1, 0, none⟩) (Nat.le_succ _) (.slice none 0 0))
    have hres := runTree (hbr2.set 0 (.slice none 0 0)).cells
    clear hbr hbr2
    go_wp2_with fail
    exact ret_cell_tmp rfl rfl hres rfl rfl hr
  have hl2 : l.length < 1048576 := by omega
  have Hk := Lib.hid hk
  have Hv := Lib.hid hv
  have Hbr2 := Lib.hid hbr2
  have hhi2 := Nat.le_trans hhi1 hs2
  clear hbr hbr2 y1 f1
  go_wp2_with fail
  refine Cut_ref lo hi l _ key w2 H2.out hhi2 hl _ (fun w3 v9 hB3 ho9 => ?_)
  obtain ⟨p9, c9, rfl⟩ := OwnR.form ho9
  have Hru := Lib.hid (rises_delL key l Hri.out)
  have Hins := Lib.hid (insL_eq key value l Hri.out)
  have hul : (delL key l).length ≤ 10000 := Nat.le_trans (List.length_filter_le _ _) hl
  generalize delL key l = u at *
  have hs3 := hB3.size
  have HB3 := Lib.hid (Hw2.out.trans (hB3.mono Hw2.out.size))
  have Hbr3 := Lib.hid (Hbr2.out.below hB3 Hbr2.out.lt)
  have hal := alloc_below w3 (.cells #[.slice p9 u.length c9] 56)
  have hb9 := Blk.new w3 [.slice p9 u.length c9] 56 rfl
  have c90 := hb9.cells.c1
  have Hb9 := Lib.hid hb9
  have Ho9 : Hid (OwnR w2.heap.size (w3.alloc (.cells #[.slice p9 u.length c9] 56)) (.slice p9 u.length c9) u) := Lib.hid (Own.kept ho9 hal)
  have HB4 := Lib.hid (HB3.out.trans (hal.mono HB3.out.size))
  have Hbr4 := Lib.hid (Hbr3.out.below hal Hbr3.out.lt)
  have h9lt := hb9.lt
  clear cb hB3 ho9 hal hb9
  go_wp2_with fail
  generalize w3.alloc (.cells #[.slice p9 u.length c9] 56) = w4 at *
  refine Rank_ref w2.heap.size w4.heap.size u _ key w4 (OwnR.rs Ho9.out) (Nat.le_refl _) (by omega) _ (fun w5 hB5 => ?_)
  have hs5 := hB5.size
  have c95 := (World.cell?_of_block (hB5.block w3.heap.size h9lt)).trans c90
  have h9 : OwnR w2.heap.size w5 (.slice p9 u.length c9) u := Own.kept Ho9.out hB5
  have H9 := Lib.hid h9
  have HB5 := Lib.hid (HB4.out.trans (hB5.mono HB4.out.size))
  have Hb95 := Lib.hid (Hb9.out.below hB5 Hb9.out.lt)
  have Hbr5 := Lib.hid (Hbr4.out.below hB5 Hbr4.out.lt)
  obtain ⟨ht1, ht2⟩ := low_take key u Hru.out
  have hn : (lowL key u).length ≤ u.length := List.length_filter_le _ _
  obtain ⟨n, en⟩ : ∃ n, n = (lowL key u).length := ⟨_, rfl⟩
  rw [← en] at ht1 ht2 hn ⊢
  obtain ⟨x1, hsl1, hx1⟩ := Sl.upTo (OwnR.rs h9) 54 uR szR n hn
  obtain ⟨x2, hsl2, hx2⟩ := Sl.fromOn (OwnR.rs h9) 54 uR szR n hn
  rw [ht1] at hx1
  rw [ht2] at hx2
  have hn2 : (highL key u).length ≤ 10000 := Nat.le_trans (List.length_filter_le _ _) hul
  have Hn2 := Lib.hid hn2
  have Hn1 : Hid ((lowL key u).length ≤ 10000) := Lib.hid (by omega)
  have HX2 := Lib.hid hx2
  obtain ⟨v6, w6, hrun6, ho6, ha6⟩ := appRs (w := w5) (lo := w5.heap.size) (Own.nil _ _ _ _ _) (srcR hx1) (by have := Hn1.out; simp; omega) (Nat.le_refl _)
  have hB56 : Below w5.heap.size w5 w6 := ha6.below (Nat.le_refl _) (fun k hk => by cases hk)
  rw [List.nil_append] at ho6
  have hs6 := hB56.size
  have HX26 := Lib.hid (Rs.low hx2 hB56 (Nat.le_refl _))
  have c96 := (World.cell?_of_block (hB56.block w3.heap.size Hb95.out.lt)).trans c95
  have HB6 := Lib.hid (HB5.out.trans (hB56.mono HB5.out.size))
  have Hbr6 := Lib.hid (Hbr5.out.below hB56 Hbr5.out.lt)
  have Hb96 := Lib.hid (Hb95.out.below hB56 Hb95.out.lt)
  have Ho6 := Lib.hid ho6
  clear ht1 ht2 hn hx1 hx2 hn2 h9 ha6 hB56 ho6 hB5 en c90
  go_wp2_with (at_builtin; refine AtApp.of ?_)
  refine AtApp.go hrun6 rfl rfl rfl rfl ?_
  clear hrun6 hsl1
  obtain ⟨v7, w7, hrun7, ho7, ha7⟩ := appR1 Ho6.out key value (n := w6.heap.size) rfl (by have := Hn1.out; omega) hs6
  have hB67 : Below w5.heap.size w6 w7 := ha7.below hs6 (fun k hk => (Ho6.out.lt k hk).1)
  have hs7 := hB67.size
  have HX27 := Lib.hid (Sl.below HX26.out (flat_loc _) hB67 (Nat.le_refl _))
  have c97 := (World.cell?_of_block (hB67.block w3.heap.size Hb95.out.lt)).trans c96
  have HB7 := Lib.hid (HB6.out.trans (hB67.mono HB5.out.size))
  have Hbr7 := Lib.hid (Hbr6.out.below hB67 Hbr5.out.lt)
  have Ho7 := Lib.hid ho7
  clear ha7 hB67 ho7 c96
  go_wp2_with (at_builtin; refine AtApp.of ?_)
  refine AtApp.go hrun7 rfl rfl rfl rfl ?_
  clear hrun7
  obtain ⟨v8, w8, hrun8, ho8, ha8⟩ := appRs Ho7.out (srcR HX27.out) (by have := Hn1.out; have := Hn2.out; simp; omega) (by omega)
  have hB78 : Below w5.heap.size w7 w8 := ha8.below (by omega) (fun k hk => (Ho7.out.lt k hk).1)
  have hs8 := hB78.size
  have HB8 := Lib.hid (HB7.out.trans (hB78.mono HB5.out.size))
  have hbr8 := Hbr7.out.below hB78 Hbr5.out.lt
  have f1 := hbr8.free 0
  have y1 := hbr8.cells.c1
  have hres := runTree (hbr8.set 0 v8).cells
  have hlt8 := ho8.lt
  have hO8 : OwnR w.heap.size (w8.setCell ⟨w.heap.size + 1, 0, none⟩ v8) v8 (insL key value l) := by
    rw [Hins.out]
    have := Own.same' (lo' := w.heap.size) ho8 (by have := Hs2.out; omega) (w' := w8.setCell ⟨w.heap.size + 1, 0, none⟩ v8) (fun g hg => Below.heap_setCell _ _ _ _ (by have := (hlt8 g hg).1; have := Hs2.out; simp only; omega))
    simpa using this
  obtain ⟨p8, c8, e8⟩ := OwnR.form hO8
  have hr := Hyes.out (by have := Hk.out; omega) (by have := Hv.out; omega) _ _ (HB8.out.setCell (p := ⟨w.heap.size + 1, 0, none⟩) (Nat.le_succ _) v8) hO8
  subst e8
  clear hB78 ho8 ha8 hbr8 hO8 hlt8
  go_wp2_with (at_builtin; refine AtApp.of ?_)
  refine AtApp.go hrun8 rfl rfl rfl rfl ?_
  clear hrun8 hsl2
  go_wp2_with fail
  exact ret_cell_tmp rfl rfl hres rfl rfl hr
end Go.Proofs.Ytmlcnfomiemdpaa
