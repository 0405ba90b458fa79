/- FoldNames holds outright: the call returns true. It takes no argument, and there is no condition. -/
import Derived.Test.YtpncblagjkbemaaKFoldNames5
/- Layer 16's laws: number, row, some; Fold with a named answer; the chapter's first example. (Printed by outf.py.) -/
section
set_option linter.unusedVariables false
set_option linter.unusedSimpArgs false
namespace Go.Proofs.Ytpncblagjkbemaa
open Go.RowKit
set_option linter.unusedVariables false
set_option linter.unusedSimpArgs false
attribute [local go_sem ↓] Go.wp_at_zero Go.wp_at_succ

def num16 (n : Int) : V := ⟨1, n, []⟩
def r16 (s : S) (l : List Int) : List V := ⟨3, 0, s⟩ :: l.map num16
def someR : List (List V) := [r16 [97] [1], r16 [97] [5], r16 [98] [2]]
instance (v : V) : Decidable v.ok := by unfold V.ok; infer_instance
theorem agsLit (w : World) (l : List Ag) (hl : l.length ≤ 1000000) {n : Nat} (hn : n = w.heap.size) : Ags 0 (w.alloc (.cells (l.flatMap Ag.enc).toArray 39)).heap.size (w.alloc (.cells (l.flatMap Ag.enc).toArray 39)) (.slice (some ⟨n, 0, none⟩) l.length l.length) l :=
  Sl.lit (α := Ag) (enc := Ag.enc) (size := 3) (fun _ => rfl) w l _ hn hl
set_option maxRecDepth 100000 in
theorem number16_any (n : Int) (w : World) (R : Ending → World → Prop) (hR : ∀ w', Below w.heap.size w w' → R (.returned (.agg #[.int .i64 1, .int .i64 n, .string ⟨#[]⟩])) w') : Calls Try.prog 18 #[.int .i64 n] w R := by
  have HR := Lib.hid hR
  clear hR
  go_enter Try.func18, Try.ntmps18
  go_upto_region 1 with fail
  have hB := alloc_below w (.cells #[.int .i64 0, .int .i64 0, .string ⟨#[]⟩] 24)
  have hb := Blk.new w [.int .i64 0, .int .i64 0, .string ⟨#[]⟩] 24 rfl
  generalize w.alloc (.cells #[.int .i64 0, .int .i64 0, .string ⟨#[]⟩] 24) = wa at *
  have f0 := hb.free 0
  have f1 := hb.free 1
  have f2 := hb.free 2
  obtain ⟨d0, d1, d2⟩ := hb.cells.c3
  simp only [Nat.zero_add] at d1 d2
  go_wp2_with fail
  exact ret_cell rfl rfl ((((hb.set 0 (.int .i64 1)).set 1 (.int .i64 n)).set 2 (.string ⟨#[]⟩)).cells.runVar (fun _ => by kernel_rfl) (fun _ => by kernel_rfl)) rfl
    (HR.out _ (((hB.setCell (p := ⟨w.heap.size, 0, none⟩) (Nat.le_refl _) _).setCell (p := ⟨w.heap.size, 1, none⟩) (Nat.le_refl _) _).setCell (p := ⟨w.heap.size, 2, none⟩) (Nat.le_refl _) _))
/-- One value that is written down is a call's own. -/
theorem OwnV.lit1 (w : World) (x : V) {n : Nat} (hn : n = w.heap.size) : OwnV w.heap.size (w.alloc (.cells #[.int .i64 x.kind, .int .i64 x.n, .string ⟨x.s.toArray⟩] 24)) (.slice (some ⟨n, 0, none⟩) 1 1) [x] := by
  subst hn
  refine ⟨rfl, .inr ⟨w.heap.size, 1, #[.int .i64 x.kind, .int .i64 x.n, .string ⟨x.s.toArray⟩], rfl, Nat.le_refl _, World.alloc_heap_new w _, Nat.le_refl _, by unfold maxLen; omega, rfl, rfl⟩⟩
set_option maxRecDepth 100000 in
set_option maxHeartbeats 2000000 in
theorem row16_any (lo hi : Nat) (l : List Int) (v : Value) (s : S) (w : World) (hv : Ints lo hi w v l) (hhi : hi ≤ w.heap.size) (hlen : l.length ≤ 1000) (R : Ending → World → Prop)
    (hR : ∀ w' v', Below w.heap.size w w' → OwnV w.heap.size w' v' (r16 s l) → R (.returned v') w') : Calls Try.prog 63 #[.string ⟨s.toArray⟩, v] w R := by
  have HR := Lib.hid hR
  have Hv := Lib.hid hv
  obtain ⟨aa, ca, rfl, -, -, -, -⟩ := hv.form
  clear hR hv
  go_enter Try.func63, Try.ntmps63
  go_upto_region 2 with fail
  have hBa := alloc_below w (.cells #[.int .i64 3, .int .i64 0, .string ⟨s.toArray⟩] 24)
  have hoa := OwnV.lit1 w ⟨3, 0, s⟩ rfl
  simp only at hoa
  generalize w.alloc (.cells #[.int .i64 3, .int .i64 0, .string ⟨s.toArray⟩] 24) = wa at *
  have HBa := Lib.hid hBa
  have Hoa := Lib.hid hoa
  clear hBa hoa
  go_wp2_with fail
  go_loopw [5, 13] (fun t5 t13 wr => ∃ (k : Nat), k ≤ l.length ∧ t13 = .int .i64 k ∧ OwnV w.heap.size wr t5 (⟨3, 0, s⟩ :: (l.take k).map num16) ∧ Below w.heap.size w wr) (fun _ t13 _ => l.length - (intOf t13).toNat)
  case atStart => exact ⟨0, Nat.zero_le _, rfl, Hoa.out, HBa.out⟩
  case round =>
    obtain ⟨k, hk, rfl, hown, hB⟩ := hrel
    obtain ⟨wo, ewo⟩ : ∃ x, x = wr := ⟨_, rfl⟩
    subst ewo
    have Hown := Lib.hid hown
    have HB := Lib.hid hB
    have hz := hB.size
    have kk0 : (0 : Int) ≤ (k : Int) := by omega
    obtain ⟨po, cap, hpo⟩ := Own.slice hown
    clear hown hB
    have Hkl : Hid ((V.mk 3 0 s :: (l.take k).map num16).length = k + 1) := Lib.hid <| by rw [List.length_cons, List.length_map, List.length_take]; omega
    rw [Hkl.out] at hpo
    by_cases hlt : k < l.length
    · have kkl : (k : Int) < (l.length : Int) := by omega
      obtain ⟨b, o, rfl, hb, hat⟩ := Ints.at (Sl.below Hv.out Ints.loc HB.out hhi) (by omega) (by omega)
      have g0 := hat k hlt wo (Below.refl _ _)
      have Hst : Hid (V.mk 3 0 s :: (l.take (k + 1)).map num16 = (V.mk 3 0 s :: (l.take k).map num16) ++ [num16 l[k]]) := Lib.hid (by
        rw [List.take_succ_eq_append_getElem hlt, List.map_append]; rfl)
      clear hat
      generalize l[k] = n at *
      subst hpo
      go_wp2_with fail
      refine number16_any n wo _ (fun w2 hB2 => ?_)
      obtain ⟨v3, w3, hr3, ho3, ha3⟩ := appV1 (Own.kept Hown.out hB2) (num16 n) rfl (by rw [Hkl.out]; omega) (by have := hB2.size; omega)
      have HB3 := Lib.hid ((HB.out.trans (hB2.mono hz)).trans (ha3.below (B := w.heap.size) (by have := hB2.size; omega) (fun q e => (Own.lt Hown.out q e).1)))
      have Ho3 : Hid (OwnV w.heap.size w3 v3 (V.mk 3 0 s :: (l.take (k + 1)).map num16)) := Lib.hid (by rw [Hst.out]; exact ho3)
      obtain ⟨p3, c3, e3⟩ := Own.slice ho3
      subst e3
      clear ho3 ha3 hB2
      generalize ((V.mk 3 0 s :: (l.take k).map num16) ++ [num16 n]).length = n3 at *
      go_wp2_with (at_builtin; refine AtApp.of ?_)
      refine AtApp.go hr3 rfl rfl rfl rfl ?_
      go_wp2_with fail
      go_roundw
      case rel => exact ⟨k + 1, by omega, by go_num, Ho3.out, HB3.out⟩
      case measure => simp [intOf]; omega
    · obtain rfl : k = l.length := by omega
      have llt : ¬ ((l.length : Nat) : Int) < (l.length : Int) := by omega
      have ho := Hown.out
      rw [List.take_length] at ho
      have hr := HR.out wo _ HB.out ho
      clear ho
      subst hpo
      go_wp2_with fail
      first | exact hr | exact fin hr rfl
theorem row16_P {w : World} {l : List Int} {v : Value} (h : (Pd.ints l).says v w) (s : S) (hlen : l.length ≤ 1000) (R : Ending → World → Prop)
    (hR : ∀ w' v', Below w.heap.size w w' → (Pd.row (r16 s l)).says v' w' → R (.returned v') w') : Calls Try.prog 63 #[.string ⟨s.toArray⟩, v] w R :=
  row16_any 0 w.heap.size l v s w h (Nat.le_refl _) hlen R (fun w' v' hB ho => hR w' v' hB ((OwnV.sl ho).mono Row1.loc (Nat.zero_le _) (Nat.le_refl _)))
theorem OfL_P {w : World} {cols : List S} {cv lv : Value} {l : List (List V)} (hcols : (Pd.strs cols).says cv w) (hv : (Pd.rows l).says lv w) (hlen : l.length ≤ 1000000000000) (hrl : ∀ x ∈ l, x.length ≤ 4000000000000) {e : Int} {co : List S} {lo : List (List V)} (he : ofErr cols l = e) (hc : okL e cols = co) (hl : okL e (relCanon l) = lo) (R : Ending → World → Prop)
    (hR : ∀ w' v, Below w.heap.size w w' → RelVL w.heap.size w' v co lo → R (.returned (.tuple #[v, .int .i64 e])) w') : Calls Try.prog 26 #[cv, lv] w R := by
  subst he hc hl
  refine OfK_any 0 w.heap.size 0 w.heap.size cols l cv lv w hcols hv (Nat.le_refl _) (Nat.le_refl _) hlen hrl R (fun w' cv lv hs hB hT hO => hR w' _ hB ?_)
  obtain ⟨p, q, rfl, -, -, -, -⟩ := (OwnT.sl hT).form
  obtain ⟨p2, q2, rfl, -, -, -, -⟩ := hO.rws.form
  exact ⟨p, q, p2, q2, rfl, OwnT.sl hT, hO.rws⟩
theorem Fold_K {w : World} {pa qa : Option Addr} {na ma : Nat} {ac : List S} {l : List (List V)} {cols : List S} {cv lav : Value} {la : List Ag} (ha : RelH w pa na qa ma ac l) (hcols : Strs 0 w.heap.size w cv cols) (hags : Ags 0 w.heap.size w lav la) (hlen : cols.length ≤ 1000000000) (hll : la.length ≤ 1000000000) (hl1 : l.length ≤ 1000) (hok : ∀ x ∈ l, ∀ a ∈ x, a.ok) {e : Int} {co : List S} {lo : List (List V)} (he : foldErr ac cols la l = e) (hc : okL e (foldCols cols la) = co) (hl : okL e (relCanon (foldRows ac cols la l)) = lo) (R : Ending → World → Prop)
    (hR : ∀ w' v, Below w.heap.size w w' → RelV w' v co lo → R (.returned (.tuple #[v, .int .i64 e])) w') :
    Calls Try.prog 16 #[.agg #[.slice pa ac.length na, .slice qa l.length ma], cv, lav] w R := by
  subst he hc hl
  exact Fold_any 0 w.heap.size 0 w.heap.size 0 w.heap.size 0 w.heap.size ac _ _ l _ cols cv la lav w ha.strs (Nat.le_refl _) ha.rws (Nat.le_refl _) hcols (Nat.le_refl _) hags (Nat.le_refl _) hlen hll hl1 hok R (fun w' cv lv hs hB hT hO => hR w' _ hB (.of hT hO))
theorem Same16_K {w : World} {pa qa pb qb : Option Addr} {na ma nb mb : Nat} {ac bc : List S} {la lb : List (List V)} (ha : RelH w pa na qa ma ac la) (hb : RelH w pb nb qb mb bc lb) (hc : ac = bc) (hl : la = lb) (hrs : ∀ x ∈ la, ∀ a ∈ x, a.s.length ≤ 9223372036854775807) (R : Ending → World → Prop)
    (hR : ∀ w', Below w.heap.size w w' → R (.returned (.bool true)) w') :
    Calls Try.prog 20 #[.agg #[.slice pa ac.length na, .slice qa la.length ma], .agg #[.slice pb bc.length nb, .slice qb lb.length mb]] w R := by
  subst hc hl
  exact lawSame16_any 0 w.heap.size 0 w.heap.size 0 w.heap.size 0 w.heap.size ac la _ _ _ _ w ha.strs hb.strs ha.rws hb.rws (Nat.le_refl _) (Nat.le_refl _) (Nat.le_refl _) (Nat.le_refl _) hrs R hR
set_option maxRecDepth 100000 in
set_option maxHeartbeats 4000000 in
theorem some16_P (w : World) (R : Ending → World → Prop) (hR : ∀ w' v, Below w.heap.size w w' → (Pd.rel [[120], [110]] someR).says v w' → R (.returned v) w') : Calls Try.prog 17 #[] w R := by
  have HR := Lib.hid hR
  clear hR
  go_enter Try.func17, Try.ntmps17
  go_upto_region 1 with fail
  have hal := alloc_below w (.cells #[.slice none 0 0, .slice none 0 0] 34)
  have hb := Blk.new w [.slice none 0 0, .slice none 0 0] 34 rfl
  generalize w.alloc (.cells #[.slice none 0 0, .slice none 0 0] 34) = w1 at *
  obtain ⟨b0, eb0⟩ : ∃ b, b = w.heap.size := ⟨_, rfl⟩
  rw [← eb0] at hb ⊢
  have hwb : w.heap.size ≤ b0 := by omega
  clear eb0
  have HB := Lib.hid (hal)
  have Hb0 := Lib.hid (hb)
  clear hal hb
  obtain ⟨wl1, ewl1⟩ : ∃ x, x = w1.alloc (.cells #[.string ⟨#[120]⟩, .string ⟨#[110]⟩] 9) := ⟨_, rfl⟩
  have hB : Below w1.heap.size w1 wl1 := by rw [ewl1]; exact alloc_below _ _
  have hsz : w1.heap.size + 1 = wl1.heap.size := by rw [ewl1]; simp
  have hV : (Pd.strs [[120], [110]]).says (.slice (some ⟨w1.heap.size, 0, none⟩) 2 2) wl1 := by rw [ewl1]; exact Pd.strsLit w1 [[120], [110]] (by decide) rfl
  replace HB := Lib.hid (HB.out.trans (hB.mono HB.out.size))
  replace Hb0 := Lib.hid (Hb0.out.below hB Hb0.out.lt)
  have Hwl1 := Lib.hid (hV)
  have Hewl1 := Lib.hid ewl1
  have hswl1 := Lib.hid hsz
  clear hB hV hsz ewl1
  obtain ⟨wl2, ewl2⟩ : ∃ x, x = wl1.alloc (.cells #[.int .i64 1] 2) := ⟨_, rfl⟩
  have hB : Below wl1.heap.size wl1 wl2 := by rw [ewl2]; exact alloc_below _ _
  have hsz : w1.heap.size + 1 + 1 = wl2.heap.size := by rw [ewl2]; simp; exact hswl1.out
  have hV : (Pd.ints [1]).says (.slice (some ⟨w1.heap.size + 1, 0, none⟩) 1 1) wl2 := by rw [ewl2]; exact Pd.intsLit wl1 [1] (by decide) hswl1.out
  replace HB := Lib.hid (HB.out.trans (hB.mono HB.out.size))
  replace Hb0 := Lib.hid (Hb0.out.below hB Hb0.out.lt)
  replace Hwl1 := Lib.hid (Pd.step Hwl1.out hB)
  have Hwl2 := Lib.hid (hV)
  have Hewl2 := Lib.hid ewl2
  have hswl2 := Lib.hid hsz
  clear hB hV hsz ewl2
  go_wp2_with fail
  rw [← Hewl1.out, ← Hewl2.out]
  clear Hewl1 Hewl2
  refine row16_P Hwl2.out [97] (by decide) _ (fun wc3 v hB hV => ?_)
  obtain ⟨p4, q5, ev⟩ := Pd.form_row hV
  replace ev : v = .slice p4 2 q5 := ev
  subst ev
  change (Pd.row (r16 [97] [1])).says _ _ at hV
  replace HB := Lib.hid (HB.out.trans (hB.mono HB.out.size))
  replace Hb0 := Lib.hid (Hb0.out.below hB Hb0.out.lt)
  replace Hwl1 := Lib.hid (Pd.step Hwl1.out hB)
  replace Hwl2 := Lib.hid (Pd.step Hwl2.out hB)
  have Hr6 := Lib.hid (hV)
  clear hB hV
  clear Hwl2
  obtain ⟨wl7, ewl7⟩ : ∃ x, x = wc3.alloc (.cells #[.int .i64 5] 2) := ⟨_, rfl⟩
  have hB : Below wc3.heap.size wc3 wl7 := by rw [ewl7]; exact alloc_below _ _
  have hsz : wc3.heap.size + 1 = wl7.heap.size := by rw [ewl7]; simp
  have hV : (Pd.ints [5]).says (.slice (some ⟨wc3.heap.size, 0, none⟩) 1 1) wl7 := by rw [ewl7]; exact Pd.intsLit wc3 [5] (by decide) rfl
  replace HB := Lib.hid (HB.out.trans (hB.mono HB.out.size))
  replace Hb0 := Lib.hid (Hb0.out.below hB Hb0.out.lt)
  replace Hwl1 := Lib.hid (Pd.step Hwl1.out hB)
  replace Hr6 := Lib.hid (Pd.step Hr6.out hB)
  have Hwl7 := Lib.hid (hV)
  have Hewl7 := Lib.hid ewl7
  have hswl7 := Lib.hid hsz
  clear hB hV hsz ewl7
  go_wp2_with fail
  rw [← Hewl7.out]
  clear Hewl7
  refine row16_P Hwl7.out [97] (by decide) _ (fun wc8 v hB hV => ?_)
  obtain ⟨p9, q10, ev⟩ := Pd.form_row hV
  replace ev : v = .slice p9 2 q10 := ev
  subst ev
  change (Pd.row (r16 [97] [5])).says _ _ at hV
  replace HB := Lib.hid (HB.out.trans (hB.mono HB.out.size))
  replace Hb0 := Lib.hid (Hb0.out.below hB Hb0.out.lt)
  replace Hwl1 := Lib.hid (Pd.step Hwl1.out hB)
  replace Hr6 := Lib.hid (Pd.step Hr6.out hB)
  replace Hwl7 := Lib.hid (Pd.step Hwl7.out hB)
  have Hr11 := Lib.hid (hV)
  clear hB hV
  clear Hwl7
  obtain ⟨wl12, ewl12⟩ : ∃ x, x = wc8.alloc (.cells #[.int .i64 2] 2) := ⟨_, rfl⟩
  have hB : Below wc8.heap.size wc8 wl12 := by rw [ewl12]; exact alloc_below _ _
  have hsz : wc8.heap.size + 1 = wl12.heap.size := by rw [ewl12]; simp
  have hV : (Pd.ints [2]).says (.slice (some ⟨wc8.heap.size, 0, none⟩) 1 1) wl12 := by rw [ewl12]; exact Pd.intsLit wc8 [2] (by decide) rfl
  replace HB := Lib.hid (HB.out.trans (hB.mono HB.out.size))
  replace Hb0 := Lib.hid (Hb0.out.below hB Hb0.out.lt)
  replace Hwl1 := Lib.hid (Pd.step Hwl1.out hB)
  replace Hr6 := Lib.hid (Pd.step Hr6.out hB)
  replace Hr11 := Lib.hid (Pd.step Hr11.out hB)
  have Hwl12 := Lib.hid (hV)
  have Hewl12 := Lib.hid ewl12
  have hswl12 := Lib.hid hsz
  clear hB hV hsz ewl12
  go_wp2_with fail
  rw [← Hewl12.out]
  clear Hewl12
  refine row16_P Hwl12.out [98] (by decide) _ (fun wc13 v hB hV => ?_)
  obtain ⟨p14, q15, ev⟩ := Pd.form_row hV
  replace ev : v = .slice p14 2 q15 := ev
  subst ev
  change (Pd.row (r16 [98] [2])).says _ _ at hV
  replace HB := Lib.hid (HB.out.trans (hB.mono HB.out.size))
  replace Hb0 := Lib.hid (Hb0.out.below hB Hb0.out.lt)
  replace Hwl1 := Lib.hid (Pd.step Hwl1.out hB)
  replace Hr6 := Lib.hid (Pd.step Hr6.out hB)
  replace Hr11 := Lib.hid (Pd.step Hr11.out hB)
  replace Hwl12 := Lib.hid (Pd.step Hwl12.out hB)
  have Hr16 := Lib.hid (hV)
  clear hB hV
  clear Hwl12
  obtain ⟨wl17, ewl17⟩ : ∃ x, x = wc13.alloc (.cells #[.slice p4 2 q5, .slice p9 2 q10, .slice p14 2 q15] 42) := ⟨_, rfl⟩
  have hB : Below wc13.heap.size wc13 wl17 := by rw [ewl17]; exact alloc_below _ _
  have hsz : wc13.heap.size + 1 = wl17.heap.size := by rw [ewl17]; simp
  have hV : (Pd.rows [(r16 [97] [1]), (r16 [97] [5]), (r16 [98] [2])]).says (.slice (some ⟨wc13.heap.size, 0, none⟩) 3 3) wl17 := by rw [ewl17]; exact Pd.rowsLit wc13 [.slice p4 2 q5, .slice p9 2 q10, .slice p14 2 q15] [(r16 [97] [1]), (r16 [97] [5]), (r16 [98] [2])] ⟨Hr6.out, Hr11.out, Hr16.out, trivial⟩ (by decide) rfl
  replace HB := Lib.hid (HB.out.trans (hB.mono HB.out.size))
  replace Hb0 := Lib.hid (Hb0.out.below hB Hb0.out.lt)
  replace Hwl1 := Lib.hid (Pd.step Hwl1.out hB)
  replace Hr6 := Lib.hid (Pd.step Hr6.out hB)
  replace Hr11 := Lib.hid (Pd.step Hr11.out hB)
  replace Hr16 := Lib.hid (Pd.step Hr16.out hB)
  have Hwl17 := Lib.hid (hV)
  have Hewl17 := Lib.hid ewl17
  have hswl17 := Lib.hid hsz
  clear hB hV hsz ewl17
  have hlb := Hb0.out.lt
  go_wp2_with fail
  rw [← Hewl17.out]
  clear Hewl17
  refine OfL_P Hwl1.out Hwl17.out (by decide) (by decide) (e := 0) (co := [[120], [110]]) (lo := someR) (by decide +kernel) (by decide +kernel) (by decide +kernel) _ (fun wc18 v hB hV => ?_)
  clear Hwl1 Hr6 Hr11 Hr16 Hwl17
  obtain ⟨pc, qc, pl, ql, ev, h1, h2⟩ := hV
  replace ev : v = .agg #[.slice pc 2 qc, .slice pl 3 ql] := ev
  subst ev
  replace HB := Lib.hid (HB.out.trans (hB.mono HB.out.size))
  replace Hb0 := Lib.hid (Hb0.out.below hB Hb0.out.lt)
  go_upto_region 2 with fail
  have hBx := alloc_below wc18 (.cells #[.slice pc 2 qc, .slice pl 3 ql] 34)
  have hbx := Blk.new wc18 [.slice pc 2 qc, .slice pl 3 ql] 34 rfl
  have h1 := Sl.below h1 Strs.loc hBx (Nat.le_refl _)
  have h2 := Sl.below h2 rowE_loc hBx (Nat.le_refl _)
  generalize wc18.alloc (.cells #[.slice pc 2 qc, .slice pl 3 ql] 34) = wx at *
  replace HB := Lib.hid (HB.out.trans (hBx.mono HB.out.size))
  replace Hb0 := Lib.hid (Hb0.out.below hBx Hb0.out.lt)
  have hzx := hBx.size
  have hzb := hB.size
  have hlb := Hb0.out.lt
  have hr := HR.out ((wx.setCell ⟨b0, 0, none⟩ (.slice pc 2 qc)).setCell ⟨b0, 1, none⟩ (.slice pl 3 ql)) (.agg #[.slice pc 2 qc, .slice pl 3 ql]) ((HB.out.setCell (p := ⟨b0, 0, none⟩) hwb _).setCell (p := ⟨b0, 1, none⟩) hwb _) (RelVL.rel (RelVL.set ⟨_, _, _, _, rfl, h1.mono Strs.loc (Nat.le_refl _) hzx, h2.mono rowE_loc (Nat.le_refl _) hzx⟩ (by omega)))
  have ht : (loadVar 34 ⟨b0, 0, none⟩).run Try.prog ((wx.setCell ⟨b0, 0, none⟩ (.slice pc 2 qc)).setCell ⟨b0, 1, none⟩ (.slice pl 3 ql)) = .ok (.agg #[.slice pc 2 qc, .slice pl 3 ql]) ((wx.setCell ⟨b0, 0, none⟩ (.slice pc 2 qc)).setCell ⟨b0, 1, none⟩ (.slice pl 3 ql)) :=
    ((Hb0.out.set 0 (.slice pc 2 qc)).set 1 (.slice pl 3 ql)).cells.runVar (P := Try.prog) (fun _ => by kernel_rfl) (fun _ => by kernel_rfl)
  obtain ⟨e0, e1⟩ := Hb0.out.cells.c2
  simp only [Nat.zero_add] at e1
  obtain ⟨x0, x1⟩ := hbx.cells.c2
  simp only [Nat.zero_add] at x1
  have f0 := Hb0.out.free 0
  have f1 := Hb0.out.free 1
  have Hr := Lib.hid hr
  have Ht := Lib.hid ht
  clear hr ht h1 h2 hB hBx hbx
  go_wp2_with fail
  exact ret_cell rfl rfl Ht.out rfl Hr.out
set_option maxRecDepth 100000 in
set_option maxHeartbeats 4000000 in
theorem alive16_P (w : World) (R : Ending → World → Prop) (hR : ∀ w', Below w.heap.size w w' → R (.returned (.bool true)) w') : Calls Try.prog 21 #[] w R := by
  have HR := Lib.hid hR
  clear hR
  go_enter Try.func21, Try.ntmps21
  have hB0 : Below w.heap.size w w := Below.refl _ _
  have HB := Lib.hid (hB0)
  clear hB0
  go_wp2_with fail
  refine some16_P w _ (fun wc1 v hB hV => ?_)
  obtain ⟨p2, q3, p4, q5, rfl, hV⟩ := hV
  replace HB := Lib.hid (HB.out.trans (hB.mono HB.out.size))
  have Hrel6 := Lib.hid (show (Pd.rel _ _).says _ _ from ⟨_, _, _, _, rfl, hV⟩)
  clear hB hV
  obtain ⟨wl7, ewl7⟩ : ∃ x, x = wc1.alloc (.cells #[.string ⟨#[120]⟩] 9) := ⟨_, rfl⟩
  have hB : Below wc1.heap.size wc1 wl7 := by rw [ewl7]; exact alloc_below _ _
  have hsz : wc1.heap.size + 1 = wl7.heap.size := by rw [ewl7]; simp
  have hV : (Pd.strs [[120]]).says (.slice (some ⟨wc1.heap.size, 0, none⟩) 1 1) wl7 := by rw [ewl7]; exact Pd.strsLit wc1 [[120]] (by decide) rfl
  replace HB := Lib.hid (HB.out.trans (hB.mono HB.out.size))
  replace Hrel6 := Lib.hid (Pd.step Hrel6.out hB)
  have Hwl7 := Lib.hid (hV)
  have Hewl7 := Lib.hid ewl7
  have hswl7 := Lib.hid hsz
  clear hB hV hsz ewl7
  obtain ⟨wl8, ewl8⟩ : ∃ x, x = wl7.alloc (.cells #[.int .i64 1, .string ⟨#[]⟩, .string ⟨#[99]⟩, .int .i64 3, .string ⟨#[110]⟩, .string ⟨#[115]⟩, .int .i64 4, .string ⟨#[110]⟩, .string ⟨#[109]⟩] 39) := ⟨_, rfl⟩
  have hB : Below wl7.heap.size wl7 wl8 := by rw [ewl8]; exact alloc_below _ _
  have hsz : wc1.heap.size + 1 + 1 = wl8.heap.size := by rw [ewl8]; simp; exact hswl7.out
  have hV : Ags 0 wl8.heap.size wl8 (.slice (some ⟨wc1.heap.size + 1, 0, none⟩) 3 3) [⟨1, [], [99]⟩, ⟨3, [110], [115]⟩, ⟨4, [110], [109]⟩] := by rw [ewl8]; exact agsLit wl7 [⟨1, [], [99]⟩, ⟨3, [110], [115]⟩, ⟨4, [110], [109]⟩] (by decide) hswl7.out
  replace HB := Lib.hid (HB.out.trans (hB.mono HB.out.size))
  replace Hrel6 := Lib.hid (Pd.step Hrel6.out hB)
  replace Hwl7 := Lib.hid (Pd.step Hwl7.out hB)
  have Hwl8 := Lib.hid (hV)
  have Hewl8 := Lib.hid ewl8
  have hswl8 := Lib.hid hsz
  clear hB hV hsz ewl8
  go_wp2_with fail
  rw [← Hewl7.out, ← Hewl8.out]
  clear Hewl7 Hewl8
  refine Fold_K (relH Hrel6.out) Hwl7.out Hwl8.out (by decide) (by decide) (by decide) (by decide +kernel) (e := 0) (co := [[120], [99], [115], [109]]) (lo := [r16 [97] [2, 6, 1], r16 [98] [1, 2, 2]]) (by decide +kernel) (by decide +kernel) (by decide +kernel) _ (fun wc9 v hB hV => ?_)
  obtain ⟨p10, q11, p12, q13, rfl, hV⟩ := hV
  replace HB := Lib.hid (HB.out.trans (hB.mono HB.out.size))
  replace Hrel6 := Lib.hid (Pd.step Hrel6.out hB)
  replace Hwl7 := Lib.hid (Pd.step Hwl7.out hB)
  replace Hwl8 := Lib.hid (Sl.grow Hwl8.out Ags.loc hB)
  have Hrel14 := Lib.hid (show (Pd.rel _ _).says _ _ from ⟨_, _, _, _, rfl, hV⟩)
  clear hB hV
  go_upto_region 2 with fail
  have hb := RelH.box (n := wc9.heap.size) (relH Hrel14.out) rfl
  have hB := alloc_below wc9 (.cells #[.slice p10 4 q11, .slice p12 2 q13] 34)
  simp only [List.length_cons, List.length_nil, Nat.zero_add, Nat.reduceAdd] at hb
  generalize wc9.alloc (.cells #[.slice p10 4 q11, .slice p12 2 q13] 34) = w15 at *
  obtain ⟨b1, eb1⟩ : ∃ b, b = wc9.heap.size := ⟨_, rfl⟩
  rw [← eb1] at hb ⊢
  clear eb1
  replace HB := Lib.hid (HB.out.trans (hB.mono HB.out.size))
  replace Hrel6 := Lib.hid (Pd.step Hrel6.out hB)
  replace Hwl7 := Lib.hid (Pd.step Hwl7.out hB)
  replace Hrel14 := Lib.hid (Pd.step Hrel14.out hB)
  replace Hwl8 := Lib.hid (Sl.grow Hwl8.out Ags.loc hB)
  have Hv := Lib.hid (hb)
  clear hB hb
  clear Hrel6 Hwl7 Hwl8 Hrel14
  refine wp_region_steps w15 (Pds [.const (.int .i64 0), .const (.bool true), .const (.bool true), .rel [[120], [99], [115], [109]] [r16 [97] [2, 6, 1], r16 [98] [1, 2, 2]], .strs [[120], [99], [115], [109]], .ints [2, 6, 1], .row (r16 [97] [2, 6, 1]), .ints [1, 2, 2], .row (r16 [98] [1, 2, 2]), .rows [(r16 [97] [2, 6, 1]), (r16 [98] [1, 2, 2])], .rel [[120], [99], [115], [109]] [(r16 [97] [2, 6, 1]), (r16 [98] [1, 2, 2])], .const (.bool true), .const (.bool true), .const (.bool true)]) 14 [(0, 13), (1, 14), (2, 15), (3, 16), (4, 17), (5, 18), (6, 19), (7, 20), (8, 21), (9, 22), (10, 23), (11, 24), (12, 25), (13, 0)] (by kernel_rfl) (by kernel_rfl) (by kernel_rfl) (by kernel_rfl) (by kernel_rfl) Pds.step ⟨?_, ?_, ?_, ?_, ?_, ?_, ?_, ?_, ?_, ?_, ?_, ?_, ?_, ?_, trivial⟩ (fun vals wz hB hV => ?_)
  · refine StepAt.mk rfl [] (by kernel_rfl) (by kernel_rfl) (fun vals w5 hB hD => ?_)
    clear hD
    simp only [List.foldl_nil]
    try simp only [Act.put, List.getElem_toArray, List.getElem_cons_succ, List.getElem_cons_zero, List.setIfInBounds_toArray, List.set_cons_zero, List.set_cons_succ]
    exact OpStep.val (v := .int .i64 0) (w' := w5) (by go_simp) (by kernel_rfl) (Below.refl _ _) rfl
  · refine StepAt.mk rfl [(0, 13)] (by kernel_rfl) (by kernel_rfl) (fun vals w5 hB hD => ?_)
    have d0 := hD (0, 13) (by simp)
    clear hD
    simp only [List.foldl_cons] at *
    simp only [List.foldl_nil]
    generalize vals 0 = x0 at *
    change x0 = .int .i64 0 at d0
    subst d0
    try simp only [Act.put, List.getElem_toArray, List.getElem_cons_succ, List.getElem_cons_zero, List.setIfInBounds_toArray, List.set_cons_zero, List.set_cons_succ]
    exact OpStep.val (v := .bool true) (w' := w5) (by go_simp) (by kernel_rfl) (Below.refl _ _) rfl
  · refine StepAt.mk rfl [(1, 14)] (by kernel_rfl) (by kernel_rfl) (fun vals w5 hB hD => ?_)
    have d1 := hD (1, 14) (by simp)
    clear hD
    simp only [List.foldl_cons] at *
    simp only [List.foldl_nil]
    generalize vals 1 = x1 at *
    change x1 = .bool true at d1
    subst d1
    try simp only [Act.put, List.getElem_toArray, List.getElem_cons_succ, List.getElem_cons_zero, List.setIfInBounds_toArray, List.set_cons_zero, List.set_cons_succ]
    exact OpStep.val (v := .bool true) (w' := w5) (by go_simp) (by kernel_rfl) (Below.refl _ _) rfl
  · refine StepAt.mk rfl [(2, 15)] (by kernel_rfl) (by kernel_rfl) (fun vals w5 hB hD => ?_)
    have d2 := hD (2, 15) (by simp)
    clear hD
    simp only [List.foldl_cons] at *
    simp only [List.foldl_nil]
    generalize vals 2 = x2 at *
    change x2 = .bool true at d2
    subst d2
    try simp only [Act.put, List.getElem_toArray, List.getElem_cons_succ, List.getElem_cons_zero, List.setIfInBounds_toArray, List.set_cons_zero, List.set_cons_succ]
    obtain ⟨c0, c1⟩ := (Hv.out.blk.below hB Hv.out.blk.lt).cells.c2
    simp only [Nat.zero_add] at c1
    exact OpStep.val (v := .agg #[.slice p10 4 q11, .slice p12 2 q13]) (w' := w5) (by go_simp) (by kernel_rfl) (Below.refl _ _) (show (Pd.rel _ _).says _ _ from ⟨_, _, _, _, rfl, Hv.out.rel.below hB⟩)
  · refine StepAt.mk rfl [(2, 15)] (by kernel_rfl) (by kernel_rfl) (fun vals w5 hB hD => ?_)
    have d2 := hD (2, 15) (by simp)
    clear hD
    simp only [List.foldl_cons] at *
    simp only [List.foldl_nil]
    generalize vals 2 = x2 at *
    change x2 = .bool true at d2
    subst d2
    try simp only [Act.put, List.getElem_toArray, List.getElem_cons_succ, List.getElem_cons_zero, List.setIfInBounds_toArray, List.set_cons_zero, List.set_cons_succ]
    exact OpStep.val (v := .slice (some ⟨w5.heap.size, 0, none⟩) 4 4) (w' := w5.alloc (.cells #[.string ⟨#[120]⟩, .string ⟨#[99]⟩, .string ⟨#[115]⟩, .string ⟨#[109]⟩] 9)) (by go_simp) (by kernel_rfl) (alloc_below _ _) (Pd.strsLit w5 [[120], [99], [115], [109]] (by decide) rfl)
  · refine StepAt.mk rfl [(2, 15)] (by kernel_rfl) (by kernel_rfl) (fun vals w5 hB hD => ?_)
    have d2 := hD (2, 15) (by simp)
    clear hD
    simp only [List.foldl_cons] at *
    simp only [List.foldl_nil]
    generalize vals 2 = x2 at *
    change x2 = .bool true at d2
    subst d2
    try simp only [Act.put, List.getElem_toArray, List.getElem_cons_succ, List.getElem_cons_zero, List.setIfInBounds_toArray, List.set_cons_zero, List.set_cons_succ]
    exact OpStep.val (v := .slice (some ⟨w5.heap.size, 0, none⟩) 3 3) (w' := w5.alloc (.cells #[.int .i64 2, .int .i64 6, .int .i64 1] 2)) (by go_simp) (by kernel_rfl) (alloc_below _ _) (Pd.intsLit w5 [2, 6, 1] (by decide) rfl)
  · refine StepAt.mk rfl [(2, 15), (5, 18)] (by kernel_rfl) (by kernel_rfl) (fun vals w5 hB hD => ?_)
    have d2 := hD (2, 15) (by simp)
    have d5 := hD (5, 18) (by simp)
    clear hD
    simp only [List.foldl_cons] at *
    simp only [List.foldl_nil]
    generalize vals 2 = x2 at *
    change x2 = .bool true at d2
    subst d2
    generalize vals 5 = x5 at *
    change (Pd.ints [2, 6, 1]).says x5 w5 at d5
    obtain ⟨p5, q5, rfl⟩ := Pd.form_ints d5
    try simp only [Act.put, List.getElem_toArray, List.getElem_cons_succ, List.getElem_cons_zero, List.setIfInBounds_toArray, List.set_cons_zero, List.set_cons_succ]
    refine OpStep.call (f := 63) (args := #[.string ⟨#[97]⟩, .slice p5 3 q5]) (by kernel_rfl) (by kernel_rfl) ?_
    exact row16_P d5 [97] (by decide) _ (fun w6 v hB6 hV => ⟨v, rfl, hB6, hV⟩)
  · refine StepAt.mk rfl [(2, 15)] (by kernel_rfl) (by kernel_rfl) (fun vals w5 hB hD => ?_)
    have d2 := hD (2, 15) (by simp)
    clear hD
    simp only [List.foldl_cons] at *
    simp only [List.foldl_nil]
    generalize vals 2 = x2 at *
    change x2 = .bool true at d2
    subst d2
    try simp only [Act.put, List.getElem_toArray, List.getElem_cons_succ, List.getElem_cons_zero, List.setIfInBounds_toArray, List.set_cons_zero, List.set_cons_succ]
    exact OpStep.val (v := .slice (some ⟨w5.heap.size, 0, none⟩) 3 3) (w' := w5.alloc (.cells #[.int .i64 1, .int .i64 2, .int .i64 2] 2)) (by go_simp) (by kernel_rfl) (alloc_below _ _) (Pd.intsLit w5 [1, 2, 2] (by decide) rfl)
  · refine StepAt.mk rfl [(2, 15), (7, 20)] (by kernel_rfl) (by kernel_rfl) (fun vals w5 hB hD => ?_)
    have d2 := hD (2, 15) (by simp)
    have d7 := hD (7, 20) (by simp)
    clear hD
    simp only [List.foldl_cons] at *
    simp only [List.foldl_nil]
    generalize vals 2 = x2 at *
    change x2 = .bool true at d2
    subst d2
    generalize vals 7 = x7 at *
    change (Pd.ints [1, 2, 2]).says x7 w5 at d7
    obtain ⟨p7, q7, rfl⟩ := Pd.form_ints d7
    try simp only [Act.put, List.getElem_toArray, List.getElem_cons_succ, List.getElem_cons_zero, List.setIfInBounds_toArray, List.set_cons_zero, List.set_cons_succ]
    refine OpStep.call (f := 63) (args := #[.string ⟨#[98]⟩, .slice p7 3 q7]) (by kernel_rfl) (by kernel_rfl) ?_
    exact row16_P d7 [98] (by decide) _ (fun w6 v hB6 hV => ⟨v, rfl, hB6, hV⟩)
  · refine StepAt.mk rfl [(2, 15), (6, 19), (8, 21)] (by kernel_rfl) (by kernel_rfl) (fun vals w5 hB hD => ?_)
    have d2 := hD (2, 15) (by simp)
    have d6 := hD (6, 19) (by simp)
    have d8 := hD (8, 21) (by simp)
    clear hD
    simp only [List.foldl_cons] at *
    simp only [List.foldl_nil]
    generalize vals 2 = x2 at *
    change x2 = .bool true at d2
    subst d2
    generalize vals 6 = x6 at *
    change (Pd.row (r16 [97] [2, 6, 1])).says x6 w5 at d6
    obtain ⟨p6, q6, ev6⟩ := Pd.form_row d6
    replace ev6 : x6 = .slice p6 4 q6 := ev6
    subst ev6
    generalize vals 8 = x8 at *
    change (Pd.row (r16 [98] [1, 2, 2])).says x8 w5 at d8
    obtain ⟨p8, q8, ev8⟩ := Pd.form_row d8
    replace ev8 : x8 = .slice p8 4 q8 := ev8
    subst ev8
    try simp only [Act.put, List.getElem_toArray, List.getElem_cons_succ, List.getElem_cons_zero, List.setIfInBounds_toArray, List.set_cons_zero, List.set_cons_succ]
    exact OpStep.val (v := .slice (some ⟨w5.heap.size, 0, none⟩) 2 2) (w' := w5.alloc (.cells #[.slice p6 4 q6, .slice p8 4 q8] 42)) (by go_simp) (by kernel_rfl) (alloc_below _ _) (Pd.rowsLit w5 [.slice p6 4 q6, .slice p8 4 q8] [(r16 [97] [2, 6, 1]), (r16 [98] [1, 2, 2])] ⟨d6, d8, trivial⟩ (by decide) rfl)
  · refine StepAt.mk rfl [(2, 15), (4, 17), (9, 22)] (by kernel_rfl) (by kernel_rfl) (fun vals w5 hB hD => ?_)
    have d2 := hD (2, 15) (by simp)
    have d4 := hD (4, 17) (by simp)
    have d9 := hD (9, 22) (by simp)
    clear hD
    simp only [List.foldl_cons] at *
    simp only [List.foldl_nil]
    generalize vals 2 = x2 at *
    change x2 = .bool true at d2
    subst d2
    generalize vals 4 = x4 at *
    change (Pd.strs [[120], [99], [115], [109]]).says x4 w5 at d4
    obtain ⟨p4, q4, rfl⟩ := Pd.form_strs d4
    generalize vals 9 = x9 at *
    change (Pd.rows [(r16 [97] [2, 6, 1]), (r16 [98] [1, 2, 2])]).says x9 w5 at d9
    obtain ⟨p9, q9, rfl⟩ := Pd.form_rows d9
    try simp only [Act.put, List.getElem_toArray, List.getElem_cons_succ, List.getElem_cons_zero, List.setIfInBounds_toArray, List.set_cons_zero, List.set_cons_succ]
    exact OpStep.val (v := .agg #[.slice p4 4 q4, .slice p9 2 q9]) (w' := w5) (by go_simp) (by kernel_rfl) (Below.refl _ _) (show (Pd.rel _ _).says _ _ from ⟨_, _, _, _, rfl, ⟨d4, d9⟩⟩)
  · refine StepAt.mk rfl [(2, 15), (3, 16), (10, 23)] (by kernel_rfl) (by kernel_rfl) (fun vals w5 hB hD => ?_)
    have d2 := hD (2, 15) (by simp)
    have d3 := hD (3, 16) (by simp)
    have d10 := hD (10, 23) (by simp)
    clear hD
    simp only [List.foldl_cons] at *
    simp only [List.foldl_nil]
    generalize vals 2 = x2 at *
    change x2 = .bool true at d2
    subst d2
    generalize vals 3 = x3 at *
    change (Pd.rel [[120], [99], [115], [109]] [r16 [97] [2, 6, 1], r16 [98] [1, 2, 2]]).says x3 w5 at d3
    obtain ⟨pa3, qa3, pb3, qb3, rfl, d3⟩ := d3
    generalize vals 10 = x10 at *
    change (Pd.rel [[120], [99], [115], [109]] [(r16 [97] [2, 6, 1]), (r16 [98] [1, 2, 2])]).says x10 w5 at d10
    obtain ⟨pa10, qa10, pb10, qb10, rfl, d10⟩ := d10
    try simp only [Act.put, List.getElem_toArray, List.getElem_cons_succ, List.getElem_cons_zero, List.setIfInBounds_toArray, List.set_cons_zero, List.set_cons_succ]
    refine OpStep.call (f := 20) (args := #[.agg #[.slice pa3 ([[120], [99], [115], [109]] : List S).length qa3, .slice pb3 ([r16 [97] [2, 6, 1], r16 [98] [1, 2, 2]] : List (List V)).length qb3], .agg #[.slice pa10 ([[120], [99], [115], [109]] : List S).length qa10, .slice pb10 ([(r16 [97] [2, 6, 1]), (r16 [98] [1, 2, 2])] : List (List V)).length qb10]]) (by kernel_rfl) (by kernel_rfl) ?_
    exact Same16_K d3 d10 (by decide +kernel) (by decide +kernel) (by decide +kernel) _ (fun w6 hB6 => ⟨_, rfl, hB6, rfl⟩)
  · refine StepAt.mk rfl [(2, 15), (11, 24)] (by kernel_rfl) (by kernel_rfl) (fun vals w5 hB hD => ?_)
    have d2 := hD (2, 15) (by simp)
    have d11 := hD (11, 24) (by simp)
    clear hD
    simp only [List.foldl_cons] at *
    simp only [List.foldl_nil]
    generalize vals 2 = x2 at *
    change x2 = .bool true at d2
    subst d2
    generalize vals 11 = x11 at *
    change x11 = .bool true at d11
    subst d11
    try simp only [Act.put, List.getElem_toArray, List.getElem_cons_succ, List.getElem_cons_zero, List.setIfInBounds_toArray, List.set_cons_zero, List.set_cons_succ]
    exact OpStep.val (v := .bool true) (w' := w5) (by go_simp) (by kernel_rfl) (Below.refl _ _) rfl
  · refine StepAt.mk rfl [(12, 25)] (by kernel_rfl) (by kernel_rfl) (fun vals w5 hB hD => ?_)
    have d12 := hD (12, 25) (by simp)
    clear hD
    simp only [List.foldl_cons] at *
    simp only [List.foldl_nil]
    generalize vals 12 = x12 at *
    change x12 = .bool true at d12
    subst d12
    try simp only [Act.put, List.getElem_toArray, List.getElem_cons_succ, List.getElem_cons_zero, List.setIfInBounds_toArray, List.set_cons_zero, List.set_cons_succ]
    exact OpStep.val (v := .bool true) (w' := w5) (by go_simp) (by kernel_rfl) (Below.refl _ _) rfl
  simp only [List.foldl_cons, List.foldl_nil]
  try simp only [Act.put, List.getElem_toArray, List.getElem_cons_succ, List.getElem_cons_zero, List.setIfInBounds_toArray, List.set_cons_zero, List.set_cons_succ]
  have z : vals 13 = .bool true := hV 13 (by decide)
  rw [z]
  have hr := HR.out wz (HB.out.trans (hB.mono HB.out.size))
  clear z hV hB
  go_wp2_with fail
  first | exact hr | exact fin hr rfl
end Go.Proofs.Ytpncblagjkbemaa
end

/- The law FoldSums, walked. (Printed by fldsm.py.) -/
section
set_option linter.unusedVariables false
set_option linter.unusedSimpArgs false
namespace Go.Proofs.Ytpncblagjkbemaa
open Go.RowKit
set_option linter.unusedVariables false
set_option linter.unusedSimpArgs false
attribute [local go_sem ↓] Go.wp_at_zero Go.wp_at_succ
def tV (o : Option Int) : V := ⟨if o.isSome then 1 else 0, o.getD 0, []⟩
def tE (o : Option Int) : Int := if o.isSome then 0 else 160
theorem totalV_eq (o : Option Int) : totalV o = .tuple #[(tV o).agg, .int .i64 (tE o)] := rfl
end Go.Proofs.Ytpncblagjkbemaa
end

/- What the functions that the chapter's examples call make of relations. -/
section
set_option linter.unusedVariables false
set_option linter.unusedSimpArgs false
namespace Go.Proofs.Ytpncblagjkbemaa
open Go.RowKit
set_option linter.unusedVariables false
set_option linter.unusedSimpArgs false
attribute [local go_sem ↓] Go.wp_at_zero Go.wp_at_succ

section
variable {w : World} {pa qa : Option Addr} {na ma : Nat} {ac : List S} {la : List (List V)}
end
end Go.Proofs.Ytpncblagjkbemaa
end

/- The law FoldNames, walked. (Printed by outfn.py.) -/
section
set_option linter.unusedVariables false
set_option linter.unusedSimpArgs false
namespace Go.Proofs.Ytpncblagjkbemaa
open Go.RowKit
set_option linter.unusedVariables false
set_option linter.unusedSimpArgs false
attribute [local go_sem ↓] Go.wp_at_zero Go.wp_at_succ
/-- Cells that stay. -/
structure AtC (W : World) (b o : Nat) (cs : List Value) : Prop where
  cells : CellsAt W b o cs
  lt : b < W.heap.size
theorem AtC.below {W W' : World} {b o : Nat} {cs : List Value} (h : AtC W b o cs) (hB : Below W.heap.size W W') : AtC W' b o cs :=
  ⟨h.cells.agree (.below hB (Nat.le_refl _)) (Nat.zero_le _) h.lt, Nat.lt_of_lt_of_le h.lt hB.size⟩
theorem Groups_K {w : World} {pa qa : Option Addr} {na ma : Nat} {ac : List S} {l : List (List V)} {cols : List S} {cv : Value} (ha : RelH w pa na qa ma ac l) (hcols : Strs 0 w.heap.size w cv cols) (hlen : cols.length ≤ 1000000000000) {e : Int} {rs : List (List (List V))} (he : grpErr ac l cols = e) (hc : okL e (grpL ac l cols) = rs) (R : Ending → World → Prop)
    (hR : ∀ w' v, Below w.heap.size w w' → RLs w.heap.size w' v ac rs → R (.returned (.tuple #[v, .int .i64 e])) w') :
    Calls Try.prog 19 #[.agg #[.slice pa ac.length na, .slice qa l.length ma], cv] w R := by
  subst he hc
  exact Groups_any 0 w.heap.size 0 w.heap.size 0 w.heap.size ac _ _ l _ cols cv w ha.strs (Nat.le_refl _) ha.rws (Nat.le_refl _) hcols (Nat.le_refl _) hlen R (fun w' v' hB hL => hR w' v' hB hL)
set_option maxRecDepth 100000 in
set_option maxHeartbeats 16000000 in
theorem FoldNames_any (w : World) (R : Ending → World → Prop) (hR : ∀ w', Below w.heap.size w w' → R (.returned (.bool true)) w') : Calls Try.prog 4 #[] w R := by
  have HR := Lib.hid hR
  clear hR
  go_enter Try.func4, Try.ntmps4
  have hB0 : Below w.heap.size w w := Below.refl _ _
  have HB := Lib.hid (hB0)
  clear hB0
  go_wp2_with fail
  refine some16_P w _ (fun wc1 v hB hV => ?_)
  obtain ⟨p2, q3, p4, q5, rfl, hV⟩ := hV
  replace HB := Lib.hid (HB.out.trans (hB.mono HB.out.size))
  have Hrel6 := Lib.hid (show (Pd.rel _ _).says _ _ from ⟨_, _, _, _, rfl, hV⟩)
  clear hB hV
  obtain ⟨wl7, ewl7⟩ : ∃ x, x = wc1.alloc (.cells #[.int .i64 2, .string ⟨#[120]⟩, .string ⟨#[100]⟩] 39) := ⟨_, rfl⟩
  have hB : Below wc1.heap.size wc1 wl7 := by rw [ewl7]; exact alloc_below _ _
  have hsz : wc1.heap.size + 1 = wl7.heap.size := by rw [ewl7]; simp
  have hV : Ags 0 wl7.heap.size wl7 (.slice (some ⟨wc1.heap.size, 0, none⟩) 1 1) [⟨2, [120], [100]⟩] := by rw [ewl7]; exact agsLit wc1 [⟨2, [120], [100]⟩] (by decide) rfl
  replace HB := Lib.hid (HB.out.trans (hB.mono HB.out.size))
  replace Hrel6 := Lib.hid (Pd.step Hrel6.out hB)
  have Hwl7 := Lib.hid (hV)
  have Hewl7 := Lib.hid ewl7
  have hswl7 := Lib.hid hsz
  clear hB hV hsz ewl7
  go_wp2_with fail
  rw [← Hewl7.out]
  clear Hewl7
  refine Fold_K (cols := [])  (relH Hrel6.out) (show Strs 0 (wl7).heap.size wl7 (.slice none 0 0) [] from Sl.nil _ _ _ _ _) Hwl7.out (by decide) (by decide) (by decide) (by decide +kernel) (e := 0) (co := [[100]]) (lo := [[num16 2]]) (by decide +kernel) (by decide +kernel) (by decide +kernel) _ (fun wc8 v hB hV => ?_)
  obtain ⟨p9, q10, p11, q12, rfl, hV⟩ := hV
  replace HB := Lib.hid (HB.out.trans (hB.mono HB.out.size))
  replace Hrel6 := Lib.hid (Pd.step Hrel6.out hB)
  replace Hwl7 := Lib.hid (Sl.grow Hwl7.out Ags.loc hB)
  have Hrel13 := Lib.hid (show (Pd.rel _ _).says _ _ from ⟨_, _, _, _, rfl, hV⟩)
  clear hB hV
  go_upto_region 2 with fail
  have hb := RelH.box (n := wc8.heap.size) (relH Hrel13.out) rfl
  have hB := alloc_below wc8 (.cells #[.slice p9 1 q10, .slice p11 1 q12] 34)
  try simp only [List.length_cons, List.length_nil, Nat.zero_add, Nat.reduceAdd] at hb
  generalize wc8.alloc (.cells #[.slice p9 1 q10, .slice p11 1 q12] 34) = w14 at *
  obtain ⟨b1, eb1⟩ : ∃ b, b = wc8.heap.size := ⟨_, rfl⟩
  rw [← eb1] at hb ⊢
  clear eb1
  replace HB := Lib.hid (HB.out.trans (hB.mono HB.out.size))
  replace Hrel6 := Lib.hid (Pd.step Hrel6.out hB)
  replace Hrel13 := Lib.hid (Pd.step Hrel13.out hB)
  replace Hwl7 := Lib.hid (Sl.grow Hwl7.out Ags.loc hB)
  have Hv1 := Lib.hid (hb)
  clear hB hb
  clear Hrel13
  clear Hrel6 Hwl7
  go_wp2_with fail
  refine some16_P w14 _ (fun wc15 v hB hV => ?_)
  obtain ⟨p16, q17, p18, q19, rfl, hV⟩ := hV
  replace HB := Lib.hid (HB.out.trans (hB.mono HB.out.size))
  replace Hv1 := Lib.hid (Hv1.out.below hB)
  have Hrel20 := Lib.hid (show (Pd.rel _ _).says _ _ from ⟨_, _, _, _, rfl, hV⟩)
  clear hB hV
  obtain ⟨wl21, ewl21⟩ : ∃ x, x = wc15.alloc (.cells #[.int .i64 3, .string ⟨#[120]⟩, .string ⟨#[115]⟩] 39) := ⟨_, rfl⟩
  have hB : Below wc15.heap.size wc15 wl21 := by rw [ewl21]; exact alloc_below _ _
  have hsz : wc15.heap.size + 1 = wl21.heap.size := by rw [ewl21]; simp
  have hV : Ags 0 wl21.heap.size wl21 (.slice (some ⟨wc15.heap.size, 0, none⟩) 1 1) [⟨3, [120], [115]⟩] := by rw [ewl21]; exact agsLit wc15 [⟨3, [120], [115]⟩] (by decide) rfl
  replace HB := Lib.hid (HB.out.trans (hB.mono HB.out.size))
  replace Hv1 := Lib.hid (Hv1.out.below hB)
  replace Hrel20 := Lib.hid (Pd.step Hrel20.out hB)
  have Hwl21 := Lib.hid (hV)
  have Hewl21 := Lib.hid ewl21
  have hswl21 := Lib.hid hsz
  clear hB hV hsz ewl21
  go_wp2_with fail
  rw [← Hewl21.out]
  clear Hewl21
  refine Fold_K (cols := [])  (relH Hrel20.out) (show Strs 0 (wl21).heap.size wl21 (.slice none 0 0) [] from Sl.nil _ _ _ _ _) Hwl21.out (by decide) (by decide) (by decide) (by decide +kernel) (e := 160) (co := []) (lo := []) (by decide +kernel) (by decide +kernel) (by decide +kernel) _ (fun wc22 v hB hV => ?_)
  obtain ⟨p23, q24, p25, q26, rfl, hV⟩ := hV
  replace HB := Lib.hid (HB.out.trans (hB.mono HB.out.size))
  replace Hv1 := Lib.hid (Hv1.out.below hB)
  replace Hrel20 := Lib.hid (Pd.step Hrel20.out hB)
  replace Hwl21 := Lib.hid (Sl.grow Hwl21.out Ags.loc hB)
  have Hrel27 := Lib.hid (show (Pd.rel _ _).says _ _ from ⟨_, _, _, _, rfl, hV⟩)
  clear hB hV
  go_upto_region 3 with fail
  have hb := RelH.box (n := wc22.heap.size) (relH Hrel27.out) rfl
  have hB := alloc_below wc22 (.cells #[.slice p23 0 q24, .slice p25 0 q26] 34)
  try simp only [List.length_cons, List.length_nil, Nat.zero_add, Nat.reduceAdd] at hb
  generalize wc22.alloc (.cells #[.slice p23 0 q24, .slice p25 0 q26] 34) = w28 at *
  obtain ⟨b3, eb3⟩ : ∃ b, b = wc22.heap.size := ⟨_, rfl⟩
  rw [← eb3] at hb ⊢
  clear eb3
  replace HB := Lib.hid (HB.out.trans (hB.mono HB.out.size))
  replace Hv1 := Lib.hid (Hv1.out.below hB)
  replace Hrel20 := Lib.hid (Pd.step Hrel20.out hB)
  replace Hrel27 := Lib.hid (Pd.step Hrel27.out hB)
  replace Hwl21 := Lib.hid (Sl.grow Hwl21.out Ags.loc hB)
  have Hv3 := Lib.hid (hb)
  clear hB hb
  clear Hrel27
  clear Hrel20 Hwl21
  clear Hv3
  obtain ⟨wl29, ewl29⟩ : ∃ x, x = w28.alloc (.cells #[.string ⟨#[120]⟩] 9) := ⟨_, rfl⟩
  have hB : Below w28.heap.size w28 wl29 := by rw [ewl29]; exact alloc_below _ _
  have hsz : w28.heap.size + 1 = wl29.heap.size := by rw [ewl29]; simp
  have hV : (Pd.strs [[120]]).says (.slice (some ⟨w28.heap.size, 0, none⟩) 1 1) wl29 := by rw [ewl29]; exact Pd.strsLit w28 [[120]] (by decide) rfl
  replace HB := Lib.hid (HB.out.trans (hB.mono HB.out.size))
  replace Hv1 := Lib.hid (Hv1.out.below hB)
  have Hwl29 := Lib.hid (hV)
  have Hewl29 := Lib.hid ewl29
  have hswl29 := Lib.hid hsz
  clear hB hV hsz ewl29
  obtain ⟨wl30, ewl30⟩ : ∃ x, x = wl29.alloc (.cells #[.int .i64 1, .string ⟨#[]⟩, .string ⟨#[99]⟩] 39) := ⟨_, rfl⟩
  have hB : Below wl29.heap.size wl29 wl30 := by rw [ewl30]; exact alloc_below _ _
  have hsz : w28.heap.size + 1 + 1 = wl30.heap.size := by rw [ewl30]; simp; exact hswl29.out
  have hV : Ags 0 wl30.heap.size wl30 (.slice (some ⟨w28.heap.size + 1, 0, none⟩) 1 1) [⟨1, [], [99]⟩] := by rw [ewl30]; exact agsLit wl29 [⟨1, [], [99]⟩] (by decide) hswl29.out
  replace HB := Lib.hid (HB.out.trans (hB.mono HB.out.size))
  replace Hv1 := Lib.hid (Hv1.out.below hB)
  replace Hwl29 := Lib.hid (Pd.step Hwl29.out hB)
  have Hwl30 := Lib.hid (hV)
  have Hewl30 := Lib.hid ewl30
  have hswl30 := Lib.hid hsz
  clear hB hV hsz ewl30
  go_wp2_with fail
  rw [← Hewl29.out, ← Hewl30.out]
  clear Hewl29 Hewl30
  refine Fold_K (cols := [])  (ac := [[120]]) (l := []) ⟨Hwl29.out, Sl.nil _ _ _ _ _⟩ (show Strs 0 (wl30).heap.size wl30 (.slice none 0 0) [] from Sl.nil _ _ _ _ _) Hwl30.out (by decide) (by decide) (by decide) (by decide +kernel) (e := 0) (co := [[99]]) (lo := []) (by decide +kernel) (by decide +kernel) (by decide +kernel) _ (fun wc31 v hB hV => ?_)
  obtain ⟨p32, q33, p34, q35, rfl, hV⟩ := hV
  replace HB := Lib.hid (HB.out.trans (hB.mono HB.out.size))
  replace Hv1 := Lib.hid (Hv1.out.below hB)
  replace Hwl29 := Lib.hid (Pd.step Hwl29.out hB)
  replace Hwl30 := Lib.hid (Sl.grow Hwl30.out Ags.loc hB)
  have Hrel36 := Lib.hid (show (Pd.rel _ _).says _ _ from ⟨_, _, _, _, rfl, hV⟩)
  clear hB hV
  go_upto_region 4 with fail
  have hb := RelH.box (n := wc31.heap.size) (relH Hrel36.out) rfl
  have hB := alloc_below wc31 (.cells #[.slice p32 1 q33, .slice p34 0 q35] 34)
  try simp only [List.length_cons, List.length_nil, Nat.zero_add, Nat.reduceAdd] at hb
  generalize wc31.alloc (.cells #[.slice p32 1 q33, .slice p34 0 q35] 34) = w37 at *
  obtain ⟨b5, eb5⟩ : ∃ b, b = wc31.heap.size := ⟨_, rfl⟩
  rw [← eb5] at hb ⊢
  clear eb5
  replace HB := Lib.hid (HB.out.trans (hB.mono HB.out.size))
  replace Hv1 := Lib.hid (Hv1.out.below hB)
  replace Hwl29 := Lib.hid (Pd.step Hwl29.out hB)
  replace Hrel36 := Lib.hid (Pd.step Hrel36.out hB)
  replace Hwl30 := Lib.hid (Sl.grow Hwl30.out Ags.loc hB)
  have Hv5 := Lib.hid (hb)
  clear hB hb
  clear Hrel36
  clear Hwl29 Hwl30
  go_wp2_with fail
  refine number16_any 9223372036854775807 w37 _ (fun wc38 hB => ?_)
  replace HB := Lib.hid (HB.out.trans (hB.mono HB.out.size))
  replace Hv1 := Lib.hid (Hv1.out.below hB)
  replace Hv5 := Lib.hid (Hv5.out.below hB)
  clear hB
  go_wp2_with fail
  refine number16_any 1 wc38 _ (fun wc39 hB => ?_)
  replace HB := Lib.hid (HB.out.trans (hB.mono HB.out.size))
  replace Hv1 := Lib.hid (Hv1.out.below hB)
  replace Hv5 := Lib.hid (Hv5.out.below hB)
  clear hB
  go_wp2_with fail
  refine number16_any (-1) wc39 _ (fun wc40 hB => ?_)
  replace HB := Lib.hid (HB.out.trans (hB.mono HB.out.size))
  replace Hv1 := Lib.hid (Hv1.out.below hB)
  replace Hv5 := Lib.hid (Hv5.out.below hB)
  clear hB
  obtain ⟨wl41, ewl41⟩ : ∃ x, x = wc40.alloc (.cells #[.int .i64 1, .int .i64 9223372036854775807, .string ⟨#[]⟩, .int .i64 1, .int .i64 1, .string ⟨#[]⟩, .int .i64 1, .int .i64 (-1), .string ⟨#[]⟩] 24) := ⟨_, rfl⟩
  have hB : Below wc40.heap.size wc40 wl41 := by rw [ewl41]; exact alloc_below _ _
  have hsz : wc40.heap.size + 1 = wl41.heap.size := by rw [ewl41]; simp
  have hV : (Pd.row [num16 9223372036854775807, num16 1, num16 (-1)]).says (.slice (some ⟨wc40.heap.size, 0, none⟩) 3 3) wl41 := by rw [ewl41]; exact Sl.lit (α := V) (enc := V.enc) (size := 3) (fun _ => rfl) wc40 [num16 9223372036854775807, num16 1, num16 (-1)] 24 rfl (by decide)
  replace HB := Lib.hid (HB.out.trans (hB.mono HB.out.size))
  replace Hv1 := Lib.hid (Hv1.out.below hB)
  replace Hv5 := Lib.hid (Hv5.out.below hB)
  have Hwl41 := Lib.hid (hV)
  have Hewl41 := Lib.hid ewl41
  have hswl41 := Lib.hid hsz
  clear hB hV hsz ewl41
  go_wp2_with fail
  rw [← Hewl41.out]
  clear Hewl41
  refine Total_any 0 (wl41).heap.size _ [num16 9223372036854775807, num16 1, num16 (-1)] wl41 Hwl41.out (Nat.le_refl _) (by decide) (by decide) _ (fun wc42 hB => ?_)
  rw [totalV_eq, show total [num16 9223372036854775807, num16 1, num16 (-1)] = some 9223372036854775807 by decide +kernel]
  simp only [tV, tE, Option.isSome_some, Option.isSome_none, Option.getD_some, Option.getD_none, if_true, Bool.false_eq_true, if_false]
  replace HB := Lib.hid (HB.out.trans (hB.mono HB.out.size))
  replace Hv1 := Lib.hid (Hv1.out.below hB)
  replace Hv5 := Lib.hid (Hv5.out.below hB)
  replace Hwl41 := Lib.hid (Pd.step Hwl41.out hB)
  clear hB
  go_upto_region 5 with fail
  have hB := alloc_below wc42 (.cells #[.int .i64 1, .int .i64 9223372036854775807, .string ⟨#[]⟩] 24)
  have hb := Blk.new wc42 [.int .i64 1, .int .i64 9223372036854775807, .string ⟨#[]⟩] 24 rfl
  generalize wc42.alloc (.cells #[.int .i64 1, .int .i64 9223372036854775807, .string ⟨#[]⟩] 24) = w43 at *
  obtain ⟨b7, eb7⟩ : ∃ b, b = wc42.heap.size := ⟨_, rfl⟩
  rw [← eb7] at hb ⊢
  clear eb7
  replace HB := Lib.hid (HB.out.trans (hB.mono HB.out.size))
  replace Hv1 := Lib.hid (Hv1.out.below hB)
  replace Hv5 := Lib.hid (Hv5.out.below hB)
  replace Hwl41 := Lib.hid (Pd.step Hwl41.out hB)
  have Hb7 := Lib.hid (hb)
  clear hB hb
  clear Hwl41
  go_wp2_with fail
  refine number16_any 9223372036854775807 w43 _ (fun wc44 hB => ?_)
  replace HB := Lib.hid (HB.out.trans (hB.mono HB.out.size))
  replace Hv1 := Lib.hid (Hv1.out.below hB)
  replace Hv5 := Lib.hid (Hv5.out.below hB)
  replace Hb7 := Lib.hid (Hb7.out.below hB Hb7.out.lt)
  clear hB
  go_wp2_with fail
  refine number16_any 1 wc44 _ (fun wc45 hB => ?_)
  replace HB := Lib.hid (HB.out.trans (hB.mono HB.out.size))
  replace Hv1 := Lib.hid (Hv1.out.below hB)
  replace Hv5 := Lib.hid (Hv5.out.below hB)
  replace Hb7 := Lib.hid (Hb7.out.below hB Hb7.out.lt)
  clear hB
  obtain ⟨wl46, ewl46⟩ : ∃ x, x = wc45.alloc (.cells #[.int .i64 1, .int .i64 9223372036854775807, .string ⟨#[]⟩, .int .i64 1, .int .i64 1, .string ⟨#[]⟩] 24) := ⟨_, rfl⟩
  have hB : Below wc45.heap.size wc45 wl46 := by rw [ewl46]; exact alloc_below _ _
  have hsz : wc45.heap.size + 1 = wl46.heap.size := by rw [ewl46]; simp
  have hV : (Pd.row [num16 9223372036854775807, num16 1]).says (.slice (some ⟨wc45.heap.size, 0, none⟩) 2 2) wl46 := by rw [ewl46]; exact Sl.lit (α := V) (enc := V.enc) (size := 3) (fun _ => rfl) wc45 [num16 9223372036854775807, num16 1] 24 rfl (by decide)
  replace HB := Lib.hid (HB.out.trans (hB.mono HB.out.size))
  replace Hv1 := Lib.hid (Hv1.out.below hB)
  replace Hv5 := Lib.hid (Hv5.out.below hB)
  replace Hb7 := Lib.hid (Hb7.out.below hB Hb7.out.lt)
  have Hwl46 := Lib.hid (hV)
  have Hewl46 := Lib.hid ewl46
  have hswl46 := Lib.hid hsz
  clear hB hV hsz ewl46
  go_wp2_with fail
  rw [← Hewl46.out]
  clear Hewl46
  refine Total_any 0 (wl46).heap.size _ [num16 9223372036854775807, num16 1] wl46 Hwl46.out (Nat.le_refl _) (by decide) (by decide) _ (fun wc47 hB => ?_)
  rw [totalV_eq, show total [num16 9223372036854775807, num16 1] = none by decide +kernel]
  simp only [tV, tE, Option.isSome_some, Option.isSome_none, Option.getD_some, Option.getD_none, if_true, Bool.false_eq_true, if_false]
  replace HB := Lib.hid (HB.out.trans (hB.mono HB.out.size))
  replace Hv1 := Lib.hid (Hv1.out.below hB)
  replace Hv5 := Lib.hid (Hv5.out.below hB)
  replace Hb7 := Lib.hid (Hb7.out.below hB Hb7.out.lt)
  replace Hwl46 := Lib.hid (Pd.step Hwl46.out hB)
  clear hB
  go_upto_region 6 with fail
  have hB := alloc_below wc47 (.cells #[.int .i64 0, .int .i64 0, .string ⟨#[]⟩] 24)
  have hb := Blk.new wc47 [.int .i64 0, .int .i64 0, .string ⟨#[]⟩] 24 rfl
  generalize wc47.alloc (.cells #[.int .i64 0, .int .i64 0, .string ⟨#[]⟩] 24) = w48 at *
  obtain ⟨b9, eb9⟩ : ∃ b, b = wc47.heap.size := ⟨_, rfl⟩
  rw [← eb9] at hb ⊢
  clear eb9
  replace HB := Lib.hid (HB.out.trans (hB.mono HB.out.size))
  replace Hv1 := Lib.hid (Hv1.out.below hB)
  replace Hv5 := Lib.hid (Hv5.out.below hB)
  replace Hb7 := Lib.hid (Hb7.out.below hB Hb7.out.lt)
  replace Hwl46 := Lib.hid (Pd.step Hwl46.out hB)
  clear hB hb
  clear Hwl46
  go_wp2_with fail
  refine Total_any 0 (w48).heap.size _ ([] : List V) w48 (show Row1 0 (w48).heap.size w48 (.slice none 0 0) [] from Sl.nil _ _ _ _ _) (Nat.le_refl _) (by decide) (by decide) _ (fun wc49 hB => ?_)
  rw [totalV_eq, show total ([] : List V) = some 0 by decide +kernel]
  simp only [tV, tE, Option.isSome_some, Option.isSome_none, Option.getD_some, Option.getD_none, if_true, Bool.false_eq_true, if_false]
  replace HB := Lib.hid (HB.out.trans (hB.mono HB.out.size))
  replace Hv1 := Lib.hid (Hv1.out.below hB)
  replace Hv5 := Lib.hid (Hv5.out.below hB)
  replace Hb7 := Lib.hid (Hb7.out.below hB Hb7.out.lt)
  clear hB
  go_upto_region 7 with fail
  have hB := alloc_below wc49 (.cells #[.int .i64 1, .int .i64 0, .string ⟨#[]⟩] 24)
  have hb := Blk.new wc49 [.int .i64 1, .int .i64 0, .string ⟨#[]⟩] 24 rfl
  generalize wc49.alloc (.cells #[.int .i64 1, .int .i64 0, .string ⟨#[]⟩] 24) = w50 at *
  obtain ⟨b11, eb11⟩ : ∃ b, b = wc49.heap.size := ⟨_, rfl⟩
  rw [← eb11] at hb ⊢
  clear eb11
  replace HB := Lib.hid (HB.out.trans (hB.mono HB.out.size))
  replace Hv1 := Lib.hid (Hv1.out.below hB)
  replace Hv5 := Lib.hid (Hv5.out.below hB)
  replace Hb7 := Lib.hid (Hb7.out.below hB Hb7.out.lt)
  have Hb11 := Lib.hid (hb)
  clear hB hb
  obtain ⟨ao1, cp1, e1, -, -, -, hc1⟩ := Hv1.out.rel.rws.form
  injection e1 with e1 e2 e3
  obtain ⟨br1, or1, er1, -, hbr1, hcc1⟩ := hc1 0 (by decide)
  obtain ⟨cs1, -, hcs1, sv1, rfl, hsv1⟩ := hcc1 0 (by decide)
  obtain ⟨ao2, cp2, rfl, -, -, -, hc2⟩ := hsv1.form
  obtain ⟨bv1, ov1, rfl, -, hbv1, hcc2⟩ := hc2 0 (by decide)
  obtain ⟨cs2, -, hcs2, ecs2⟩ := hcc2 0 (by decide)
  obtain rfl : cs2 = [.int .i64 1, .int .i64 2, .string ⟨#[]⟩] := ecs2
  have hr1 : AtC w50 br1 or1 [.slice (some ⟨bv1, ov1, none⟩) 1 cp2] := ⟨by simpa using hcs1, hbr1⟩
  have hx1 : AtC w50 bv1 ov1 [.int .i64 1, .int .i64 2, .string ⟨#[]⟩] := ⟨by simpa using hcs2, hbv1⟩
  rw [er1] at e1
  have ep1 : p11 = some ⟨br1, or1, none⟩ := e1
  subst ep1
  have Hr1 := Lib.hid (hr1)
  have Hx1 := Lib.hid (hx1)
  clear hc1 hcc1 hcs1 hsv1 hc2 hcc2 hcs2 e1 e2 e3 er1 hr1 hx1 hbr1 hbv1
  refine wp_region_steps w50 (Pds [.const (.int .i64 0), .const (.bool true), .const (.bool true), .const (.pointer (some ⟨b1, 1, none⟩)), .const (.slice (some ⟨br1, or1, none⟩) 1 q12), .const (.int .i64 1), .const (.bool true), .const (.bool true), .const (.bool true), .const (.pointer (some ⟨b1, 1, none⟩)), .const (.slice (some ⟨br1, or1, none⟩) 1 q12), .const (.pointer (some ⟨br1, or1, none⟩)), .const (.slice (some ⟨bv1, ov1, none⟩) 1 cp2), .const (.int .i64 1), .const (.bool true), .const (.bool true), .const (.bool true), .const (.pointer (some ⟨b1, 1, none⟩)), .const (.slice (some ⟨br1, or1, none⟩) 1 q12), .const (.pointer (some ⟨br1, or1, none⟩)), .const (.slice (some ⟨bv1, ov1, none⟩) 1 cp2), .const (.pointer (some ⟨bv1, ov1, none⟩)), .const (.agg #[.int .i64 1, .int .i64 2, .string ⟨#[]⟩]), .const (.agg #[.int .i64 1, .int .i64 2, .string ⟨#[]⟩]), .const (.bool true), .const (.bool true), .const (.bool true), .const (.int .i64 160), .const (.bool true), .const (.bool true), .const (.bool true), .const (.int .i64 0), .const (.bool true), .const (.bool true), .const (.bool true), .const (.pointer (some ⟨b5, 1, none⟩)), .const (.slice p34 0 q35), .const (.int .i64 0), .const (.bool true), .const (.bool true), .const (.bool true), .const (.pointer (some ⟨b5, 0, none⟩)), .const (.slice p32 1 q33), .const (.int .i64 1), .const (.bool true), .const (.bool true), .const (.bool true), .const (.int .i64 0), .const (.bool true), .const (.bool true), .const (.bool true), .const (.agg #[.int .i64 1, .int .i64 9223372036854775807, .string ⟨#[]⟩]), .const (.agg #[.int .i64 1, .int .i64 9223372036854775807, .string ⟨#[]⟩]), .const (.bool true), .const (.bool true), .const (.bool true), .const (.int .i64 160), .const (.bool true), .const (.bool true), .const (.bool true), .const (.int .i64 0), .const (.bool true), .const (.bool true), .const (.bool true), .const (.agg #[.int .i64 1, .int .i64 0, .string ⟨#[]⟩]), .const (.agg #[.int .i64 1, .int .i64 0, .string ⟨#[]⟩]), .const (.bool true), .const (.bool true), .const (.bool true)]) 69 [(0, 71), (1, 72), (2, 73), (3, 74), (4, 75), (5, 76), (6, 77), (7, 78), (8, 79), (9, 80), (10, 81), (11, 82), (12, 83), (13, 84), (14, 85), (15, 86), (16, 87), (17, 88), (18, 89), (19, 90), (20, 91), (21, 92), (22, 93), (23, 94), (24, 95), (25, 96), (26, 97), (27, 98), (28, 99), (29, 100), (30, 101), (31, 102), (32, 103), (33, 104), (34, 105), (35, 106), (36, 107), (37, 108), (38, 109), (39, 110), (40, 111), (41, 112), (42, 113), (43, 114), (44, 115), (45, 116), (46, 117), (47, 118), (48, 119), (49, 120), (50, 121), (51, 122), (52, 123), (53, 124), (54, 125), (55, 126), (56, 127), (57, 128), (58, 129), (59, 130), (60, 131), (61, 132), (62, 133), (63, 134), (64, 135), (65, 136), (66, 137), (67, 138), (68, 13)] (by kernel_rfl) (by kernel_rfl) (by kernel_rfl) (by kernel_rfl) (by kernel_rfl) Pds.step ⟨?_, ?_, ?_, ?_, ?_, ?_, ?_, ?_, ?_, ?_, ?_, ?_, ?_, ?_, ?_, ?_, ?_, ?_, ?_, ?_, ?_, ?_, ?_, ?_, ?_, ?_, ?_, ?_, ?_, ?_, ?_, ?_, ?_, ?_, ?_, ?_, ?_, ?_, ?_, ?_, ?_, ?_, ?_, ?_, ?_, ?_, ?_, ?_, ?_, ?_, ?_, ?_, ?_, ?_, ?_, ?_, ?_, ?_, ?_, ?_, ?_, ?_, ?_, ?_, ?_, ?_, ?_, ?_, ?_, trivial⟩ (fun vals wz hB hV => ?_)
  · refine StepAt.mk rfl [] (by kernel_rfl) (by kernel_rfl) (fun vals w5 hB hD => ?_)
    clear hD
    simp only [List.foldl_nil]
    try simp only [Act.put, List.getElem_toArray, List.getElem_cons_succ, List.getElem_cons_zero, List.setIfInBounds_toArray, List.set_cons_zero, List.set_cons_succ]
    exact OpStep.val (v := .int .i64 0) (w' := w5) (by go_simp) (by kernel_rfl) (Below.refl _ _) rfl
  · refine StepAt.mk rfl [(0, 71)] (by kernel_rfl) (by kernel_rfl) (fun vals w5 hB hD => ?_)
    have d0 := hD (0, 71) (by simp)
    clear hD
    simp only [List.foldl_cons] at *
    simp only [List.foldl_nil]
    generalize vals 0 = x0 at *
    change x0 = .int .i64 0 at d0
    subst d0
    try simp only [Act.put, List.getElem_toArray, List.getElem_cons_succ, List.getElem_cons_zero, List.setIfInBounds_toArray, List.set_cons_zero, List.set_cons_succ]
    exact OpStep.val (v := .bool true) (w' := w5) (by go_simp) (by kernel_rfl) (Below.refl _ _) rfl
  · refine StepAt.mk rfl [(1, 72)] (by kernel_rfl) (by kernel_rfl) (fun vals w5 hB hD => ?_)
    have d1 := hD (1, 72) (by simp)
    clear hD
    simp only [List.foldl_cons] at *
    simp only [List.foldl_nil]
    generalize vals 1 = x1 at *
    change x1 = .bool true at d1
    subst d1
    try simp only [Act.put, List.getElem_toArray, List.getElem_cons_succ, List.getElem_cons_zero, List.setIfInBounds_toArray, List.set_cons_zero, List.set_cons_succ]
    exact OpStep.val (v := .bool true) (w' := w5) (by go_simp) (by kernel_rfl) (Below.refl _ _) rfl
  · refine StepAt.mk rfl [(2, 73)] (by kernel_rfl) (by kernel_rfl) (fun vals w5 hB hD => ?_)
    have d2 := hD (2, 73) (by simp)
    clear hD
    simp only [List.foldl_cons] at *
    simp only [List.foldl_nil]
    generalize vals 2 = x2 at *
    change x2 = .bool true at d2
    subst d2
    try simp only [Act.put, List.getElem_toArray, List.getElem_cons_succ, List.getElem_cons_zero, List.setIfInBounds_toArray, List.set_cons_zero, List.set_cons_succ]
    exact OpStep.val (v := .pointer (some ⟨b1, 1, none⟩)) (w' := w5) (by go_simp) (by kernel_rfl) (Below.refl _ _) rfl
  · refine StepAt.mk rfl [(2, 73), (3, 74)] (by kernel_rfl) (by kernel_rfl) (fun vals w5 hB hD => ?_)
    have d2 := hD (2, 73) (by simp)
    have d3 := hD (3, 74) (by simp)
    clear hD
    simp only [List.foldl_cons] at *
    simp only [List.foldl_nil]
    generalize vals 2 = x2 at *
    change x2 = .bool true at d2
    subst d2
    generalize vals 3 = x3 at *
    change x3 = .pointer (some ⟨b1, 1, none⟩) at d3
    subst d3
    try simp only [Act.put, List.getElem_toArray, List.getElem_cons_succ, List.getElem_cons_zero, List.setIfInBounds_toArray, List.set_cons_zero, List.set_cons_succ]
    obtain ⟨c0, c1⟩ := (Hv1.out.blk.below hB Hv1.out.blk.lt).cells.c2
    simp only [Nat.zero_add] at c1
    exact OpStep.val (v := .slice (some ⟨br1, or1, none⟩) 1 q12) (w' := w5) (by go_simp) (by kernel_rfl) (Below.refl _ _) rfl
  · refine StepAt.mk rfl [(2, 73), (4, 75)] (by kernel_rfl) (by kernel_rfl) (fun vals w5 hB hD => ?_)
    have d2 := hD (2, 73) (by simp)
    have d4 := hD (4, 75) (by simp)
    clear hD
    simp only [List.foldl_cons] at *
    simp only [List.foldl_nil]
    generalize vals 2 = x2 at *
    change x2 = .bool true at d2
    subst d2
    generalize vals 4 = x4 at *
    change x4 = .slice (some ⟨br1, or1, none⟩) 1 q12 at d4
    subst d4
    try simp only [Act.put, List.getElem_toArray, List.getElem_cons_succ, List.getElem_cons_zero, List.setIfInBounds_toArray, List.set_cons_zero, List.set_cons_succ]
    exact OpStep.val (v := .int .i64 1) (w' := w5) (by go_simp) (by kernel_rfl) (Below.refl _ _) rfl
  · refine StepAt.mk rfl [(2, 73), (5, 76)] (by kernel_rfl) (by kernel_rfl) (fun vals w5 hB hD => ?_)
    have d2 := hD (2, 73) (by simp)
    have d5 := hD (5, 76) (by simp)
    clear hD
    simp only [List.foldl_cons] at *
    simp only [List.foldl_nil]
    generalize vals 2 = x2 at *
    change x2 = .bool true at d2
    subst d2
    generalize vals 5 = x5 at *
    change x5 = .int .i64 1 at d5
    subst d5
    try simp only [Act.put, List.getElem_toArray, List.getElem_cons_succ, List.getElem_cons_zero, List.setIfInBounds_toArray, List.set_cons_zero, List.set_cons_succ]
    exact OpStep.val (v := .bool true) (w' := w5) (by go_simp) (by kernel_rfl) (Below.refl _ _) rfl
  · refine StepAt.mk rfl [(2, 73), (6, 77)] (by kernel_rfl) (by kernel_rfl) (fun vals w5 hB hD => ?_)
    have d2 := hD (2, 73) (by simp)
    have d6 := hD (6, 77) (by simp)
    clear hD
    simp only [List.foldl_cons] at *
    simp only [List.foldl_nil]
    generalize vals 2 = x2 at *
    change x2 = .bool true at d2
    subst d2
    generalize vals 6 = x6 at *
    change x6 = .bool true at d6
    subst d6
    try simp only [Act.put, List.getElem_toArray, List.getElem_cons_succ, List.getElem_cons_zero, List.setIfInBounds_toArray, List.set_cons_zero, List.set_cons_succ]
    exact OpStep.val (v := .bool true) (w' := w5) (by go_simp) (by kernel_rfl) (Below.refl _ _) rfl
  · refine StepAt.mk rfl [(7, 78)] (by kernel_rfl) (by kernel_rfl) (fun vals w5 hB hD => ?_)
    have d7 := hD (7, 78) (by simp)
    clear hD
    simp only [List.foldl_cons] at *
    simp only [List.foldl_nil]
    generalize vals 7 = x7 at *
    change x7 = .bool true at d7
    subst d7
    try simp only [Act.put, List.getElem_toArray, List.getElem_cons_succ, List.getElem_cons_zero, List.setIfInBounds_toArray, List.set_cons_zero, List.set_cons_succ]
    exact OpStep.val (v := .bool true) (w' := w5) (by go_simp) (by kernel_rfl) (Below.refl _ _) rfl
  · refine StepAt.mk rfl [(8, 79)] (by kernel_rfl) (by kernel_rfl) (fun vals w5 hB hD => ?_)
    have d8 := hD (8, 79) (by simp)
    clear hD
    simp only [List.foldl_cons] at *
    simp only [List.foldl_nil]
    generalize vals 8 = x8 at *
    change x8 = .bool true at d8
    subst d8
    try simp only [Act.put, List.getElem_toArray, List.getElem_cons_succ, List.getElem_cons_zero, List.setIfInBounds_toArray, List.set_cons_zero, List.set_cons_succ]
    exact OpStep.val (v := .pointer (some ⟨b1, 1, none⟩)) (w' := w5) (by go_simp) (by kernel_rfl) (Below.refl _ _) rfl
  · refine StepAt.mk rfl [(8, 79), (9, 80)] (by kernel_rfl) (by kernel_rfl) (fun vals w5 hB hD => ?_)
    have d8 := hD (8, 79) (by simp)
    have d9 := hD (9, 80) (by simp)
    clear hD
    simp only [List.foldl_cons] at *
    simp only [List.foldl_nil]
    generalize vals 8 = x8 at *
    change x8 = .bool true at d8
    subst d8
    generalize vals 9 = x9 at *
    change x9 = .pointer (some ⟨b1, 1, none⟩) at d9
    subst d9
    try simp only [Act.put, List.getElem_toArray, List.getElem_cons_succ, List.getElem_cons_zero, List.setIfInBounds_toArray, List.set_cons_zero, List.set_cons_succ]
    obtain ⟨c0, c1⟩ := (Hv1.out.blk.below hB Hv1.out.blk.lt).cells.c2
    simp only [Nat.zero_add] at c1
    exact OpStep.val (v := .slice (some ⟨br1, or1, none⟩) 1 q12) (w' := w5) (by go_simp) (by kernel_rfl) (Below.refl _ _) rfl
  · refine StepAt.mk rfl [(8, 79), (10, 81)] (by kernel_rfl) (by kernel_rfl) (fun vals w5 hB hD => ?_)
    have d8 := hD (8, 79) (by simp)
    have d10 := hD (10, 81) (by simp)
    clear hD
    simp only [List.foldl_cons] at *
    simp only [List.foldl_nil]
    generalize vals 8 = x8 at *
    change x8 = .bool true at d8
    subst d8
    generalize vals 10 = x10 at *
    change x10 = .slice (some ⟨br1, or1, none⟩) 1 q12 at d10
    subst d10
    try simp only [Act.put, List.getElem_toArray, List.getElem_cons_succ, List.getElem_cons_zero, List.setIfInBounds_toArray, List.set_cons_zero, List.set_cons_succ]
    exact OpStep.val (v := .pointer (some ⟨br1, or1, none⟩)) (w' := w5) (by go_simp) (by kernel_rfl) (Below.refl _ _) rfl
  · refine StepAt.mk rfl [(8, 79), (11, 82)] (by kernel_rfl) (by kernel_rfl) (fun vals w5 hB hD => ?_)
    have d8 := hD (8, 79) (by simp)
    have d11 := hD (11, 82) (by simp)
    clear hD
    simp only [List.foldl_cons] at *
    simp only [List.foldl_nil]
    generalize vals 8 = x8 at *
    change x8 = .bool true at d8
    subst d8
    generalize vals 11 = x11 at *
    change x11 = .pointer (some ⟨br1, or1, none⟩) at d11
    subst d11
    try simp only [Act.put, List.getElem_toArray, List.getElem_cons_succ, List.getElem_cons_zero, List.setIfInBounds_toArray, List.set_cons_zero, List.set_cons_succ]
    have z0 := (Hr1.out.below hB).cells.c1
    exact OpStep.val (v := .slice (some ⟨bv1, ov1, none⟩) 1 cp2) (w' := w5) (by go_simp) (by kernel_rfl) (Below.refl _ _) rfl
  · refine StepAt.mk rfl [(8, 79), (12, 83)] (by kernel_rfl) (by kernel_rfl) (fun vals w5 hB hD => ?_)
    have d8 := hD (8, 79) (by simp)
    have d12 := hD (12, 83) (by simp)
    clear hD
    simp only [List.foldl_cons] at *
    simp only [List.foldl_nil]
    generalize vals 8 = x8 at *
    change x8 = .bool true at d8
    subst d8
    generalize vals 12 = x12 at *
    change x12 = .slice (some ⟨bv1, ov1, none⟩) 1 cp2 at d12
    subst d12
    try simp only [Act.put, List.getElem_toArray, List.getElem_cons_succ, List.getElem_cons_zero, List.setIfInBounds_toArray, List.set_cons_zero, List.set_cons_succ]
    exact OpStep.val (v := .int .i64 1) (w' := w5) (by go_simp) (by kernel_rfl) (Below.refl _ _) rfl
  · refine StepAt.mk rfl [(8, 79), (13, 84)] (by kernel_rfl) (by kernel_rfl) (fun vals w5 hB hD => ?_)
    have d8 := hD (8, 79) (by simp)
    have d13 := hD (13, 84) (by simp)
    clear hD
    simp only [List.foldl_cons] at *
    simp only [List.foldl_nil]
    generalize vals 8 = x8 at *
    change x8 = .bool true at d8
    subst d8
    generalize vals 13 = x13 at *
    change x13 = .int .i64 1 at d13
    subst d13
    try simp only [Act.put, List.getElem_toArray, List.getElem_cons_succ, List.getElem_cons_zero, List.setIfInBounds_toArray, List.set_cons_zero, List.set_cons_succ]
    exact OpStep.val (v := .bool true) (w' := w5) (by go_simp) (by kernel_rfl) (Below.refl _ _) rfl
  · refine StepAt.mk rfl [(8, 79), (14, 85)] (by kernel_rfl) (by kernel_rfl) (fun vals w5 hB hD => ?_)
    have d8 := hD (8, 79) (by simp)
    have d14 := hD (14, 85) (by simp)
    clear hD
    simp only [List.foldl_cons] at *
    simp only [List.foldl_nil]
    generalize vals 8 = x8 at *
    change x8 = .bool true at d8
    subst d8
    generalize vals 14 = x14 at *
    change x14 = .bool true at d14
    subst d14
    try simp only [Act.put, List.getElem_toArray, List.getElem_cons_succ, List.getElem_cons_zero, List.setIfInBounds_toArray, List.set_cons_zero, List.set_cons_succ]
    exact OpStep.val (v := .bool true) (w' := w5) (by go_simp) (by kernel_rfl) (Below.refl _ _) rfl
  · refine StepAt.mk rfl [(15, 86)] (by kernel_rfl) (by kernel_rfl) (fun vals w5 hB hD => ?_)
    have d15 := hD (15, 86) (by simp)
    clear hD
    simp only [List.foldl_cons] at *
    simp only [List.foldl_nil]
    generalize vals 15 = x15 at *
    change x15 = .bool true at d15
    subst d15
    try simp only [Act.put, List.getElem_toArray, List.getElem_cons_succ, List.getElem_cons_zero, List.setIfInBounds_toArray, List.set_cons_zero, List.set_cons_succ]
    exact OpStep.val (v := .bool true) (w' := w5) (by go_simp) (by kernel_rfl) (Below.refl _ _) rfl
  · refine StepAt.mk rfl [(16, 87)] (by kernel_rfl) (by kernel_rfl) (fun vals w5 hB hD => ?_)
    have d16 := hD (16, 87) (by simp)
    clear hD
    simp only [List.foldl_cons] at *
    simp only [List.foldl_nil]
    generalize vals 16 = x16 at *
    change x16 = .bool true at d16
    subst d16
    try simp only [Act.put, List.getElem_toArray, List.getElem_cons_succ, List.getElem_cons_zero, List.setIfInBounds_toArray, List.set_cons_zero, List.set_cons_succ]
    exact OpStep.val (v := .pointer (some ⟨b1, 1, none⟩)) (w' := w5) (by go_simp) (by kernel_rfl) (Below.refl _ _) rfl
  · refine StepAt.mk rfl [(16, 87), (17, 88)] (by kernel_rfl) (by kernel_rfl) (fun vals w5 hB hD => ?_)
    have d16 := hD (16, 87) (by simp)
    have d17 := hD (17, 88) (by simp)
    clear hD
    simp only [List.foldl_cons] at *
    simp only [List.foldl_nil]
    generalize vals 16 = x16 at *
    change x16 = .bool true at d16
    subst d16
    generalize vals 17 = x17 at *
    change x17 = .pointer (some ⟨b1, 1, none⟩) at d17
    subst d17
    try simp only [Act.put, List.getElem_toArray, List.getElem_cons_succ, List.getElem_cons_zero, List.setIfInBounds_toArray, List.set_cons_zero, List.set_cons_succ]
    obtain ⟨c0, c1⟩ := (Hv1.out.blk.below hB Hv1.out.blk.lt).cells.c2
    simp only [Nat.zero_add] at c1
    exact OpStep.val (v := .slice (some ⟨br1, or1, none⟩) 1 q12) (w' := w5) (by go_simp) (by kernel_rfl) (Below.refl _ _) rfl
  · refine StepAt.mk rfl [(16, 87), (18, 89)] (by kernel_rfl) (by kernel_rfl) (fun vals w5 hB hD => ?_)
    have d16 := hD (16, 87) (by simp)
    have d18 := hD (18, 89) (by simp)
    clear hD
    simp only [List.foldl_cons] at *
    simp only [List.foldl_nil]
    generalize vals 16 = x16 at *
    change x16 = .bool true at d16
    subst d16
    generalize vals 18 = x18 at *
    change x18 = .slice (some ⟨br1, or1, none⟩) 1 q12 at d18
    subst d18
    try simp only [Act.put, List.getElem_toArray, List.getElem_cons_succ, List.getElem_cons_zero, List.setIfInBounds_toArray, List.set_cons_zero, List.set_cons_succ]
    exact OpStep.val (v := .pointer (some ⟨br1, or1, none⟩)) (w' := w5) (by go_simp) (by kernel_rfl) (Below.refl _ _) rfl
  · refine StepAt.mk rfl [(16, 87), (19, 90)] (by kernel_rfl) (by kernel_rfl) (fun vals w5 hB hD => ?_)
    have d16 := hD (16, 87) (by simp)
    have d19 := hD (19, 90) (by simp)
    clear hD
    simp only [List.foldl_cons] at *
    simp only [List.foldl_nil]
    generalize vals 16 = x16 at *
    change x16 = .bool true at d16
    subst d16
    generalize vals 19 = x19 at *
    change x19 = .pointer (some ⟨br1, or1, none⟩) at d19
    subst d19
    try simp only [Act.put, List.getElem_toArray, List.getElem_cons_succ, List.getElem_cons_zero, List.setIfInBounds_toArray, List.set_cons_zero, List.set_cons_succ]
    have z0 := (Hr1.out.below hB).cells.c1
    exact OpStep.val (v := .slice (some ⟨bv1, ov1, none⟩) 1 cp2) (w' := w5) (by go_simp) (by kernel_rfl) (Below.refl _ _) rfl
  · refine StepAt.mk rfl [(16, 87), (20, 91)] (by kernel_rfl) (by kernel_rfl) (fun vals w5 hB hD => ?_)
    have d16 := hD (16, 87) (by simp)
    have d20 := hD (20, 91) (by simp)
    clear hD
    simp only [List.foldl_cons] at *
    simp only [List.foldl_nil]
    generalize vals 16 = x16 at *
    change x16 = .bool true at d16
    subst d16
    generalize vals 20 = x20 at *
    change x20 = .slice (some ⟨bv1, ov1, none⟩) 1 cp2 at d20
    subst d20
    try simp only [Act.put, List.getElem_toArray, List.getElem_cons_succ, List.getElem_cons_zero, List.setIfInBounds_toArray, List.set_cons_zero, List.set_cons_succ]
    exact OpStep.val (v := .pointer (some ⟨bv1, ov1, none⟩)) (w' := w5) (by go_simp) (by kernel_rfl) (Below.refl _ _) rfl
  · refine StepAt.mk rfl [(16, 87), (21, 92)] (by kernel_rfl) (by kernel_rfl) (fun vals w5 hB hD => ?_)
    have d16 := hD (16, 87) (by simp)
    have d21 := hD (21, 92) (by simp)
    clear hD
    simp only [List.foldl_cons] at *
    simp only [List.foldl_nil]
    generalize vals 16 = x16 at *
    change x16 = .bool true at d16
    subst d16
    generalize vals 21 = x21 at *
    change x21 = .pointer (some ⟨bv1, ov1, none⟩) at d21
    subst d21
    try simp only [Act.put, List.getElem_toArray, List.getElem_cons_succ, List.getElem_cons_zero, List.setIfInBounds_toArray, List.set_cons_zero, List.set_cons_succ]
    obtain ⟨z0, z1, z2⟩ := (Hx1.out.below hB).cells.c3
    exact OpStep.val (v := .agg #[.int .i64 1, .int .i64 2, .string ⟨#[]⟩]) (w' := w5) (by go_simp) (by kernel_rfl) (Below.refl _ _) rfl
  · refine StepAt.mk rfl [(16, 87)] (by kernel_rfl) (by kernel_rfl) (fun vals w5 hB hD => ?_)
    have d16 := hD (16, 87) (by simp)
    clear hD
    simp only [List.foldl_cons] at *
    simp only [List.foldl_nil]
    generalize vals 16 = x16 at *
    change x16 = .bool true at d16
    subst d16
    try simp only [Act.put, List.getElem_toArray, List.getElem_cons_succ, List.getElem_cons_zero, List.setIfInBounds_toArray, List.set_cons_zero, List.set_cons_succ]
    refine OpStep.call (f := 18) (args := #[.int .i64 2]) (by kernel_rfl) (by kernel_rfl) ?_
    exact number16_any 2 w5 _ (fun w6 hB6 => ⟨_, rfl, hB6, rfl⟩)
  · refine StepAt.mk rfl [(16, 87), (22, 93), (23, 94)] (by kernel_rfl) (by kernel_rfl) (fun vals w5 hB hD => ?_)
    have d16 := hD (16, 87) (by simp)
    have d22 := hD (22, 93) (by simp)
    have d23 := hD (23, 94) (by simp)
    clear hD
    simp only [List.foldl_cons] at *
    simp only [List.foldl_nil]
    generalize vals 16 = x16 at *
    change x16 = .bool true at d16
    subst d16
    generalize vals 22 = x22 at *
    change x22 = .agg #[.int .i64 1, .int .i64 2, .string ⟨#[]⟩] at d22
    subst d22
    generalize vals 23 = x23 at *
    change x23 = .agg #[.int .i64 1, .int .i64 2, .string ⟨#[]⟩] at d23
    subst d23
    try simp only [Act.put, List.getElem_toArray, List.getElem_cons_succ, List.getElem_cons_zero, List.setIfInBounds_toArray, List.set_cons_zero, List.set_cons_succ]
    exact OpStep.val (v := .bool true) (w' := w5) (by go_simp) (by kernel_rfl) (Below.refl _ _) rfl
  · refine StepAt.mk rfl [(16, 87), (24, 95)] (by kernel_rfl) (by kernel_rfl) (fun vals w5 hB hD => ?_)
    have d16 := hD (16, 87) (by simp)
    have d24 := hD (24, 95) (by simp)
    clear hD
    simp only [List.foldl_cons] at *
    simp only [List.foldl_nil]
    generalize vals 16 = x16 at *
    change x16 = .bool true at d16
    subst d16
    generalize vals 24 = x24 at *
    change x24 = .bool true at d24
    subst d24
    try simp only [Act.put, List.getElem_toArray, List.getElem_cons_succ, List.getElem_cons_zero, List.setIfInBounds_toArray, List.set_cons_zero, List.set_cons_succ]
    exact OpStep.val (v := .bool true) (w' := w5) (by go_simp) (by kernel_rfl) (Below.refl _ _) rfl
  · refine StepAt.mk rfl [(25, 96)] (by kernel_rfl) (by kernel_rfl) (fun vals w5 hB hD => ?_)
    have d25 := hD (25, 96) (by simp)
    clear hD
    simp only [List.foldl_cons] at *
    simp only [List.foldl_nil]
    generalize vals 25 = x25 at *
    change x25 = .bool true at d25
    subst d25
    try simp only [Act.put, List.getElem_toArray, List.getElem_cons_succ, List.getElem_cons_zero, List.setIfInBounds_toArray, List.set_cons_zero, List.set_cons_succ]
    exact OpStep.val (v := .bool true) (w' := w5) (by go_simp) (by kernel_rfl) (Below.refl _ _) rfl
  · refine StepAt.mk rfl [(26, 97)] (by kernel_rfl) (by kernel_rfl) (fun vals w5 hB hD => ?_)
    have d26 := hD (26, 97) (by simp)
    clear hD
    simp only [List.foldl_cons] at *
    simp only [List.foldl_nil]
    generalize vals 26 = x26 at *
    change x26 = .bool true at d26
    subst d26
    try simp only [Act.put, List.getElem_toArray, List.getElem_cons_succ, List.getElem_cons_zero, List.setIfInBounds_toArray, List.set_cons_zero, List.set_cons_succ]
    exact OpStep.val (v := .int .i64 160) (w' := w5) (by go_simp) (by kernel_rfl) (Below.refl _ _) rfl
  · refine StepAt.mk rfl [(26, 97), (27, 98)] (by kernel_rfl) (by kernel_rfl) (fun vals w5 hB hD => ?_)
    have d26 := hD (26, 97) (by simp)
    have d27 := hD (27, 98) (by simp)
    clear hD
    simp only [List.foldl_cons] at *
    simp only [List.foldl_nil]
    generalize vals 26 = x26 at *
    change x26 = .bool true at d26
    subst d26
    generalize vals 27 = x27 at *
    change x27 = .int .i64 160 at d27
    subst d27
    try simp only [Act.put, List.getElem_toArray, List.getElem_cons_succ, List.getElem_cons_zero, List.setIfInBounds_toArray, List.set_cons_zero, List.set_cons_succ]
    exact OpStep.val (v := .bool true) (w' := w5) (by go_simp) (by kernel_rfl) (Below.refl _ _) rfl
  · refine StepAt.mk rfl [(26, 97), (28, 99)] (by kernel_rfl) (by kernel_rfl) (fun vals w5 hB hD => ?_)
    have d26 := hD (26, 97) (by simp)
    have d28 := hD (28, 99) (by simp)
    clear hD
    simp only [List.foldl_cons] at *
    simp only [List.foldl_nil]
    generalize vals 26 = x26 at *
    change x26 = .bool true at d26
    subst d26
    generalize vals 28 = x28 at *
    change x28 = .bool true at d28
    subst d28
    try simp only [Act.put, List.getElem_toArray, List.getElem_cons_succ, List.getElem_cons_zero, List.setIfInBounds_toArray, List.set_cons_zero, List.set_cons_succ]
    exact OpStep.val (v := .bool true) (w' := w5) (by go_simp) (by kernel_rfl) (Below.refl _ _) rfl
  · refine StepAt.mk rfl [(29, 100)] (by kernel_rfl) (by kernel_rfl) (fun vals w5 hB hD => ?_)
    have d29 := hD (29, 100) (by simp)
    clear hD
    simp only [List.foldl_cons] at *
    simp only [List.foldl_nil]
    generalize vals 29 = x29 at *
    change x29 = .bool true at d29
    subst d29
    try simp only [Act.put, List.getElem_toArray, List.getElem_cons_succ, List.getElem_cons_zero, List.setIfInBounds_toArray, List.set_cons_zero, List.set_cons_succ]
    exact OpStep.val (v := .bool true) (w' := w5) (by go_simp) (by kernel_rfl) (Below.refl _ _) rfl
  · refine StepAt.mk rfl [(30, 101)] (by kernel_rfl) (by kernel_rfl) (fun vals w5 hB hD => ?_)
    have d30 := hD (30, 101) (by simp)
    clear hD
    simp only [List.foldl_cons] at *
    simp only [List.foldl_nil]
    generalize vals 30 = x30 at *
    change x30 = .bool true at d30
    subst d30
    try simp only [Act.put, List.getElem_toArray, List.getElem_cons_succ, List.getElem_cons_zero, List.setIfInBounds_toArray, List.set_cons_zero, List.set_cons_succ]
    exact OpStep.val (v := .int .i64 0) (w' := w5) (by go_simp) (by kernel_rfl) (Below.refl _ _) rfl
  · refine StepAt.mk rfl [(30, 101), (31, 102)] (by kernel_rfl) (by kernel_rfl) (fun vals w5 hB hD => ?_)
    have d30 := hD (30, 101) (by simp)
    have d31 := hD (31, 102) (by simp)
    clear hD
    simp only [List.foldl_cons] at *
    simp only [List.foldl_nil]
    generalize vals 30 = x30 at *
    change x30 = .bool true at d30
    subst d30
    generalize vals 31 = x31 at *
    change x31 = .int .i64 0 at d31
    subst d31
    try simp only [Act.put, List.getElem_toArray, List.getElem_cons_succ, List.getElem_cons_zero, List.setIfInBounds_toArray, List.set_cons_zero, List.set_cons_succ]
    exact OpStep.val (v := .bool true) (w' := w5) (by go_simp) (by kernel_rfl) (Below.refl _ _) rfl
  · refine StepAt.mk rfl [(30, 101), (32, 103)] (by kernel_rfl) (by kernel_rfl) (fun vals w5 hB hD => ?_)
    have d30 := hD (30, 101) (by simp)
    have d32 := hD (32, 103) (by simp)
    clear hD
    simp only [List.foldl_cons] at *
    simp only [List.foldl_nil]
    generalize vals 30 = x30 at *
    change x30 = .bool true at d30
    subst d30
    generalize vals 32 = x32 at *
    change x32 = .bool true at d32
    subst d32
    try simp only [Act.put, List.getElem_toArray, List.getElem_cons_succ, List.getElem_cons_zero, List.setIfInBounds_toArray, List.set_cons_zero, List.set_cons_succ]
    exact OpStep.val (v := .bool true) (w' := w5) (by go_simp) (by kernel_rfl) (Below.refl _ _) rfl
  · refine StepAt.mk rfl [(33, 104)] (by kernel_rfl) (by kernel_rfl) (fun vals w5 hB hD => ?_)
    have d33 := hD (33, 104) (by simp)
    clear hD
    simp only [List.foldl_cons] at *
    simp only [List.foldl_nil]
    generalize vals 33 = x33 at *
    change x33 = .bool true at d33
    subst d33
    try simp only [Act.put, List.getElem_toArray, List.getElem_cons_succ, List.getElem_cons_zero, List.setIfInBounds_toArray, List.set_cons_zero, List.set_cons_succ]
    exact OpStep.val (v := .bool true) (w' := w5) (by go_simp) (by kernel_rfl) (Below.refl _ _) rfl
  · refine StepAt.mk rfl [(34, 105)] (by kernel_rfl) (by kernel_rfl) (fun vals w5 hB hD => ?_)
    have d34 := hD (34, 105) (by simp)
    clear hD
    simp only [List.foldl_cons] at *
    simp only [List.foldl_nil]
    generalize vals 34 = x34 at *
    change x34 = .bool true at d34
    subst d34
    try simp only [Act.put, List.getElem_toArray, List.getElem_cons_succ, List.getElem_cons_zero, List.setIfInBounds_toArray, List.set_cons_zero, List.set_cons_succ]
    exact OpStep.val (v := .pointer (some ⟨b5, 1, none⟩)) (w' := w5) (by go_simp) (by kernel_rfl) (Below.refl _ _) rfl
  · refine StepAt.mk rfl [(34, 105), (35, 106)] (by kernel_rfl) (by kernel_rfl) (fun vals w5 hB hD => ?_)
    have d34 := hD (34, 105) (by simp)
    have d35 := hD (35, 106) (by simp)
    clear hD
    simp only [List.foldl_cons] at *
    simp only [List.foldl_nil]
    generalize vals 34 = x34 at *
    change x34 = .bool true at d34
    subst d34
    generalize vals 35 = x35 at *
    change x35 = .pointer (some ⟨b5, 1, none⟩) at d35
    subst d35
    try simp only [Act.put, List.getElem_toArray, List.getElem_cons_succ, List.getElem_cons_zero, List.setIfInBounds_toArray, List.set_cons_zero, List.set_cons_succ]
    obtain ⟨c0, c1⟩ := (Hv5.out.blk.below hB Hv5.out.blk.lt).cells.c2
    simp only [Nat.zero_add] at c1
    exact OpStep.val (v := .slice p34 0 q35) (w' := w5) (by go_simp) (by kernel_rfl) (Below.refl _ _) rfl
  · refine StepAt.mk rfl [(34, 105), (36, 107)] (by kernel_rfl) (by kernel_rfl) (fun vals w5 hB hD => ?_)
    have d34 := hD (34, 105) (by simp)
    have d36 := hD (36, 107) (by simp)
    clear hD
    simp only [List.foldl_cons] at *
    simp only [List.foldl_nil]
    generalize vals 34 = x34 at *
    change x34 = .bool true at d34
    subst d34
    generalize vals 36 = x36 at *
    change x36 = .slice p34 0 q35 at d36
    subst d36
    try simp only [Act.put, List.getElem_toArray, List.getElem_cons_succ, List.getElem_cons_zero, List.setIfInBounds_toArray, List.set_cons_zero, List.set_cons_succ]
    exact OpStep.val (v := .int .i64 0) (w' := w5) (by go_simp) (by kernel_rfl) (Below.refl _ _) rfl
  · refine StepAt.mk rfl [(34, 105), (37, 108)] (by kernel_rfl) (by kernel_rfl) (fun vals w5 hB hD => ?_)
    have d34 := hD (34, 105) (by simp)
    have d37 := hD (37, 108) (by simp)
    clear hD
    simp only [List.foldl_cons] at *
    simp only [List.foldl_nil]
    generalize vals 34 = x34 at *
    change x34 = .bool true at d34
    subst d34
    generalize vals 37 = x37 at *
    change x37 = .int .i64 0 at d37
    subst d37
    try simp only [Act.put, List.getElem_toArray, List.getElem_cons_succ, List.getElem_cons_zero, List.setIfInBounds_toArray, List.set_cons_zero, List.set_cons_succ]
    exact OpStep.val (v := .bool true) (w' := w5) (by go_simp) (by kernel_rfl) (Below.refl _ _) rfl
  · refine StepAt.mk rfl [(34, 105), (38, 109)] (by kernel_rfl) (by kernel_rfl) (fun vals w5 hB hD => ?_)
    have d34 := hD (34, 105) (by simp)
    have d38 := hD (38, 109) (by simp)
    clear hD
    simp only [List.foldl_cons] at *
    simp only [List.foldl_nil]
    generalize vals 34 = x34 at *
    change x34 = .bool true at d34
    subst d34
    generalize vals 38 = x38 at *
    change x38 = .bool true at d38
    subst d38
    try simp only [Act.put, List.getElem_toArray, List.getElem_cons_succ, List.getElem_cons_zero, List.setIfInBounds_toArray, List.set_cons_zero, List.set_cons_succ]
    exact OpStep.val (v := .bool true) (w' := w5) (by go_simp) (by kernel_rfl) (Below.refl _ _) rfl
  · refine StepAt.mk rfl [(39, 110)] (by kernel_rfl) (by kernel_rfl) (fun vals w5 hB hD => ?_)
    have d39 := hD (39, 110) (by simp)
    clear hD
    simp only [List.foldl_cons] at *
    simp only [List.foldl_nil]
    generalize vals 39 = x39 at *
    change x39 = .bool true at d39
    subst d39
    try simp only [Act.put, List.getElem_toArray, List.getElem_cons_succ, List.getElem_cons_zero, List.setIfInBounds_toArray, List.set_cons_zero, List.set_cons_succ]
    exact OpStep.val (v := .bool true) (w' := w5) (by go_simp) (by kernel_rfl) (Below.refl _ _) rfl
  · refine StepAt.mk rfl [(40, 111)] (by kernel_rfl) (by kernel_rfl) (fun vals w5 hB hD => ?_)
    have d40 := hD (40, 111) (by simp)
    clear hD
    simp only [List.foldl_cons] at *
    simp only [List.foldl_nil]
    generalize vals 40 = x40 at *
    change x40 = .bool true at d40
    subst d40
    try simp only [Act.put, List.getElem_toArray, List.getElem_cons_succ, List.getElem_cons_zero, List.setIfInBounds_toArray, List.set_cons_zero, List.set_cons_succ]
    exact OpStep.val (v := .pointer (some ⟨b5, 0, none⟩)) (w' := w5) (by go_simp) (by kernel_rfl) (Below.refl _ _) rfl
  · refine StepAt.mk rfl [(40, 111), (41, 112)] (by kernel_rfl) (by kernel_rfl) (fun vals w5 hB hD => ?_)
    have d40 := hD (40, 111) (by simp)
    have d41 := hD (41, 112) (by simp)
    clear hD
    simp only [List.foldl_cons] at *
    simp only [List.foldl_nil]
    generalize vals 40 = x40 at *
    change x40 = .bool true at d40
    subst d40
    generalize vals 41 = x41 at *
    change x41 = .pointer (some ⟨b5, 0, none⟩) at d41
    subst d41
    try simp only [Act.put, List.getElem_toArray, List.getElem_cons_succ, List.getElem_cons_zero, List.setIfInBounds_toArray, List.set_cons_zero, List.set_cons_succ]
    obtain ⟨c0, c1⟩ := (Hv5.out.blk.below hB Hv5.out.blk.lt).cells.c2
    simp only [Nat.zero_add] at c1
    exact OpStep.val (v := .slice p32 1 q33) (w' := w5) (by go_simp) (by kernel_rfl) (Below.refl _ _) rfl
  · refine StepAt.mk rfl [(40, 111), (42, 113)] (by kernel_rfl) (by kernel_rfl) (fun vals w5 hB hD => ?_)
    have d40 := hD (40, 111) (by simp)
    have d42 := hD (42, 113) (by simp)
    clear hD
    simp only [List.foldl_cons] at *
    simp only [List.foldl_nil]
    generalize vals 40 = x40 at *
    change x40 = .bool true at d40
    subst d40
    generalize vals 42 = x42 at *
    change x42 = .slice p32 1 q33 at d42
    subst d42
    try simp only [Act.put, List.getElem_toArray, List.getElem_cons_succ, List.getElem_cons_zero, List.setIfInBounds_toArray, List.set_cons_zero, List.set_cons_succ]
    exact OpStep.val (v := .int .i64 1) (w' := w5) (by go_simp) (by kernel_rfl) (Below.refl _ _) rfl
  · refine StepAt.mk rfl [(40, 111), (43, 114)] (by kernel_rfl) (by kernel_rfl) (fun vals w5 hB hD => ?_)
    have d40 := hD (40, 111) (by simp)
    have d43 := hD (43, 114) (by simp)
    clear hD
    simp only [List.foldl_cons] at *
    simp only [List.foldl_nil]
    generalize vals 40 = x40 at *
    change x40 = .bool true at d40
    subst d40
    generalize vals 43 = x43 at *
    change x43 = .int .i64 1 at d43
    subst d43
    try simp only [Act.put, List.getElem_toArray, List.getElem_cons_succ, List.getElem_cons_zero, List.setIfInBounds_toArray, List.set_cons_zero, List.set_cons_succ]
    exact OpStep.val (v := .bool true) (w' := w5) (by go_simp) (by kernel_rfl) (Below.refl _ _) rfl
  · refine StepAt.mk rfl [(40, 111), (44, 115)] (by kernel_rfl) (by kernel_rfl) (fun vals w5 hB hD => ?_)
    have d40 := hD (40, 111) (by simp)
    have d44 := hD (44, 115) (by simp)
    clear hD
    simp only [List.foldl_cons] at *
    simp only [List.foldl_nil]
    generalize vals 40 = x40 at *
    change x40 = .bool true at d40
    subst d40
    generalize vals 44 = x44 at *
    change x44 = .bool true at d44
    subst d44
    try simp only [Act.put, List.getElem_toArray, List.getElem_cons_succ, List.getElem_cons_zero, List.setIfInBounds_toArray, List.set_cons_zero, List.set_cons_succ]
    exact OpStep.val (v := .bool true) (w' := w5) (by go_simp) (by kernel_rfl) (Below.refl _ _) rfl
  · refine StepAt.mk rfl [(45, 116)] (by kernel_rfl) (by kernel_rfl) (fun vals w5 hB hD => ?_)
    have d45 := hD (45, 116) (by simp)
    clear hD
    simp only [List.foldl_cons] at *
    simp only [List.foldl_nil]
    generalize vals 45 = x45 at *
    change x45 = .bool true at d45
    subst d45
    try simp only [Act.put, List.getElem_toArray, List.getElem_cons_succ, List.getElem_cons_zero, List.setIfInBounds_toArray, List.set_cons_zero, List.set_cons_succ]
    exact OpStep.val (v := .bool true) (w' := w5) (by go_simp) (by kernel_rfl) (Below.refl _ _) rfl
  · refine StepAt.mk rfl [(46, 117)] (by kernel_rfl) (by kernel_rfl) (fun vals w5 hB hD => ?_)
    have d46 := hD (46, 117) (by simp)
    clear hD
    simp only [List.foldl_cons] at *
    simp only [List.foldl_nil]
    generalize vals 46 = x46 at *
    change x46 = .bool true at d46
    subst d46
    try simp only [Act.put, List.getElem_toArray, List.getElem_cons_succ, List.getElem_cons_zero, List.setIfInBounds_toArray, List.set_cons_zero, List.set_cons_succ]
    exact OpStep.val (v := .int .i64 0) (w' := w5) (by go_simp) (by kernel_rfl) (Below.refl _ _) rfl
  · refine StepAt.mk rfl [(46, 117), (47, 118)] (by kernel_rfl) (by kernel_rfl) (fun vals w5 hB hD => ?_)
    have d46 := hD (46, 117) (by simp)
    have d47 := hD (47, 118) (by simp)
    clear hD
    simp only [List.foldl_cons] at *
    simp only [List.foldl_nil]
    generalize vals 46 = x46 at *
    change x46 = .bool true at d46
    subst d46
    generalize vals 47 = x47 at *
    change x47 = .int .i64 0 at d47
    subst d47
    try simp only [Act.put, List.getElem_toArray, List.getElem_cons_succ, List.getElem_cons_zero, List.setIfInBounds_toArray, List.set_cons_zero, List.set_cons_succ]
    exact OpStep.val (v := .bool true) (w' := w5) (by go_simp) (by kernel_rfl) (Below.refl _ _) rfl
  · refine StepAt.mk rfl [(46, 117), (48, 119)] (by kernel_rfl) (by kernel_rfl) (fun vals w5 hB hD => ?_)
    have d46 := hD (46, 117) (by simp)
    have d48 := hD (48, 119) (by simp)
    clear hD
    simp only [List.foldl_cons] at *
    simp only [List.foldl_nil]
    generalize vals 46 = x46 at *
    change x46 = .bool true at d46
    subst d46
    generalize vals 48 = x48 at *
    change x48 = .bool true at d48
    subst d48
    try simp only [Act.put, List.getElem_toArray, List.getElem_cons_succ, List.getElem_cons_zero, List.setIfInBounds_toArray, List.set_cons_zero, List.set_cons_succ]
    exact OpStep.val (v := .bool true) (w' := w5) (by go_simp) (by kernel_rfl) (Below.refl _ _) rfl
  · refine StepAt.mk rfl [(49, 120)] (by kernel_rfl) (by kernel_rfl) (fun vals w5 hB hD => ?_)
    have d49 := hD (49, 120) (by simp)
    clear hD
    simp only [List.foldl_cons] at *
    simp only [List.foldl_nil]
    generalize vals 49 = x49 at *
    change x49 = .bool true at d49
    subst d49
    try simp only [Act.put, List.getElem_toArray, List.getElem_cons_succ, List.getElem_cons_zero, List.setIfInBounds_toArray, List.set_cons_zero, List.set_cons_succ]
    exact OpStep.val (v := .bool true) (w' := w5) (by go_simp) (by kernel_rfl) (Below.refl _ _) rfl
  · refine StepAt.mk rfl [(50, 121)] (by kernel_rfl) (by kernel_rfl) (fun vals w5 hB hD => ?_)
    have d50 := hD (50, 121) (by simp)
    clear hD
    simp only [List.foldl_cons] at *
    simp only [List.foldl_nil]
    generalize vals 50 = x50 at *
    change x50 = .bool true at d50
    subst d50
    try simp only [Act.put, List.getElem_toArray, List.getElem_cons_succ, List.getElem_cons_zero, List.setIfInBounds_toArray, List.set_cons_zero, List.set_cons_succ]
    have kx := (Hb7.out.below hB Hb7.out.lt).cells.runVar (P := Try.prog) (t := 24) (fun _ => by kernel_rfl) (fun _ => by kernel_rfl)
    obtain ⟨z0, z1, z2⟩ := (Hb7.out.below hB Hb7.out.lt).cells.c3
    simp only [Nat.zero_add] at z1 z2
    exact OpStep.val (v := .agg #[.int .i64 1, .int .i64 9223372036854775807, .string ⟨#[]⟩]) (w' := w5) (by go_simp) (by kernel_rfl) (Below.refl _ _) rfl
  · refine StepAt.mk rfl [(50, 121)] (by kernel_rfl) (by kernel_rfl) (fun vals w5 hB hD => ?_)
    have d50 := hD (50, 121) (by simp)
    clear hD
    simp only [List.foldl_cons] at *
    simp only [List.foldl_nil]
    generalize vals 50 = x50 at *
    change x50 = .bool true at d50
    subst d50
    try simp only [Act.put, List.getElem_toArray, List.getElem_cons_succ, List.getElem_cons_zero, List.setIfInBounds_toArray, List.set_cons_zero, List.set_cons_succ]
    refine OpStep.call (f := 18) (args := #[.int .i64 9223372036854775807]) (by kernel_rfl) (by kernel_rfl) ?_
    exact number16_any 9223372036854775807 w5 _ (fun w6 hB6 => ⟨_, rfl, hB6, rfl⟩)
  · refine StepAt.mk rfl [(50, 121), (51, 122), (52, 123)] (by kernel_rfl) (by kernel_rfl) (fun vals w5 hB hD => ?_)
    have d50 := hD (50, 121) (by simp)
    have d51 := hD (51, 122) (by simp)
    have d52 := hD (52, 123) (by simp)
    clear hD
    simp only [List.foldl_cons] at *
    simp only [List.foldl_nil]
    generalize vals 50 = x50 at *
    change x50 = .bool true at d50
    subst d50
    generalize vals 51 = x51 at *
    change x51 = .agg #[.int .i64 1, .int .i64 9223372036854775807, .string ⟨#[]⟩] at d51
    subst d51
    generalize vals 52 = x52 at *
    change x52 = .agg #[.int .i64 1, .int .i64 9223372036854775807, .string ⟨#[]⟩] at d52
    subst d52
    try simp only [Act.put, List.getElem_toArray, List.getElem_cons_succ, List.getElem_cons_zero, List.setIfInBounds_toArray, List.set_cons_zero, List.set_cons_succ]
    exact OpStep.val (v := .bool true) (w' := w5) (by go_simp) (by kernel_rfl) (Below.refl _ _) rfl
  · refine StepAt.mk rfl [(50, 121), (53, 124)] (by kernel_rfl) (by kernel_rfl) (fun vals w5 hB hD => ?_)
    have d50 := hD (50, 121) (by simp)
    have d53 := hD (53, 124) (by simp)
    clear hD
    simp only [List.foldl_cons] at *
    simp only [List.foldl_nil]
    generalize vals 50 = x50 at *
    change x50 = .bool true at d50
    subst d50
    generalize vals 53 = x53 at *
    change x53 = .bool true at d53
    subst d53
    try simp only [Act.put, List.getElem_toArray, List.getElem_cons_succ, List.getElem_cons_zero, List.setIfInBounds_toArray, List.set_cons_zero, List.set_cons_succ]
    exact OpStep.val (v := .bool true) (w' := w5) (by go_simp) (by kernel_rfl) (Below.refl _ _) rfl
  · refine StepAt.mk rfl [(54, 125)] (by kernel_rfl) (by kernel_rfl) (fun vals w5 hB hD => ?_)
    have d54 := hD (54, 125) (by simp)
    clear hD
    simp only [List.foldl_cons] at *
    simp only [List.foldl_nil]
    generalize vals 54 = x54 at *
    change x54 = .bool true at d54
    subst d54
    try simp only [Act.put, List.getElem_toArray, List.getElem_cons_succ, List.getElem_cons_zero, List.setIfInBounds_toArray, List.set_cons_zero, List.set_cons_succ]
    exact OpStep.val (v := .bool true) (w' := w5) (by go_simp) (by kernel_rfl) (Below.refl _ _) rfl
  · refine StepAt.mk rfl [(55, 126)] (by kernel_rfl) (by kernel_rfl) (fun vals w5 hB hD => ?_)
    have d55 := hD (55, 126) (by simp)
    clear hD
    simp only [List.foldl_cons] at *
    simp only [List.foldl_nil]
    generalize vals 55 = x55 at *
    change x55 = .bool true at d55
    subst d55
    try simp only [Act.put, List.getElem_toArray, List.getElem_cons_succ, List.getElem_cons_zero, List.setIfInBounds_toArray, List.set_cons_zero, List.set_cons_succ]
    exact OpStep.val (v := .int .i64 160) (w' := w5) (by go_simp) (by kernel_rfl) (Below.refl _ _) rfl
  · refine StepAt.mk rfl [(55, 126), (56, 127)] (by kernel_rfl) (by kernel_rfl) (fun vals w5 hB hD => ?_)
    have d55 := hD (55, 126) (by simp)
    have d56 := hD (56, 127) (by simp)
    clear hD
    simp only [List.foldl_cons] at *
    simp only [List.foldl_nil]
    generalize vals 55 = x55 at *
    change x55 = .bool true at d55
    subst d55
    generalize vals 56 = x56 at *
    change x56 = .int .i64 160 at d56
    subst d56
    try simp only [Act.put, List.getElem_toArray, List.getElem_cons_succ, List.getElem_cons_zero, List.setIfInBounds_toArray, List.set_cons_zero, List.set_cons_succ]
    exact OpStep.val (v := .bool true) (w' := w5) (by go_simp) (by kernel_rfl) (Below.refl _ _) rfl
  · refine StepAt.mk rfl [(55, 126), (57, 128)] (by kernel_rfl) (by kernel_rfl) (fun vals w5 hB hD => ?_)
    have d55 := hD (55, 126) (by simp)
    have d57 := hD (57, 128) (by simp)
    clear hD
    simp only [List.foldl_cons] at *
    simp only [List.foldl_nil]
    generalize vals 55 = x55 at *
    change x55 = .bool true at d55
    subst d55
    generalize vals 57 = x57 at *
    change x57 = .bool true at d57
    subst d57
    try simp only [Act.put, List.getElem_toArray, List.getElem_cons_succ, List.getElem_cons_zero, List.setIfInBounds_toArray, List.set_cons_zero, List.set_cons_succ]
    exact OpStep.val (v := .bool true) (w' := w5) (by go_simp) (by kernel_rfl) (Below.refl _ _) rfl
  · refine StepAt.mk rfl [(58, 129)] (by kernel_rfl) (by kernel_rfl) (fun vals w5 hB hD => ?_)
    have d58 := hD (58, 129) (by simp)
    clear hD
    simp only [List.foldl_cons] at *
    simp only [List.foldl_nil]
    generalize vals 58 = x58 at *
    change x58 = .bool true at d58
    subst d58
    try simp only [Act.put, List.getElem_toArray, List.getElem_cons_succ, List.getElem_cons_zero, List.setIfInBounds_toArray, List.set_cons_zero, List.set_cons_succ]
    exact OpStep.val (v := .bool true) (w' := w5) (by go_simp) (by kernel_rfl) (Below.refl _ _) rfl
  · refine StepAt.mk rfl [(59, 130)] (by kernel_rfl) (by kernel_rfl) (fun vals w5 hB hD => ?_)
    have d59 := hD (59, 130) (by simp)
    clear hD
    simp only [List.foldl_cons] at *
    simp only [List.foldl_nil]
    generalize vals 59 = x59 at *
    change x59 = .bool true at d59
    subst d59
    try simp only [Act.put, List.getElem_toArray, List.getElem_cons_succ, List.getElem_cons_zero, List.setIfInBounds_toArray, List.set_cons_zero, List.set_cons_succ]
    exact OpStep.val (v := .int .i64 0) (w' := w5) (by go_simp) (by kernel_rfl) (Below.refl _ _) rfl
  · refine StepAt.mk rfl [(59, 130), (60, 131)] (by kernel_rfl) (by kernel_rfl) (fun vals w5 hB hD => ?_)
    have d59 := hD (59, 130) (by simp)
    have d60 := hD (60, 131) (by simp)
    clear hD
    simp only [List.foldl_cons] at *
    simp only [List.foldl_nil]
    generalize vals 59 = x59 at *
    change x59 = .bool true at d59
    subst d59
    generalize vals 60 = x60 at *
    change x60 = .int .i64 0 at d60
    subst d60
    try simp only [Act.put, List.getElem_toArray, List.getElem_cons_succ, List.getElem_cons_zero, List.setIfInBounds_toArray, List.set_cons_zero, List.set_cons_succ]
    exact OpStep.val (v := .bool true) (w' := w5) (by go_simp) (by kernel_rfl) (Below.refl _ _) rfl
  · refine StepAt.mk rfl [(59, 130), (61, 132)] (by kernel_rfl) (by kernel_rfl) (fun vals w5 hB hD => ?_)
    have d59 := hD (59, 130) (by simp)
    have d61 := hD (61, 132) (by simp)
    clear hD
    simp only [List.foldl_cons] at *
    simp only [List.foldl_nil]
    generalize vals 59 = x59 at *
    change x59 = .bool true at d59
    subst d59
    generalize vals 61 = x61 at *
    change x61 = .bool true at d61
    subst d61
    try simp only [Act.put, List.getElem_toArray, List.getElem_cons_succ, List.getElem_cons_zero, List.setIfInBounds_toArray, List.set_cons_zero, List.set_cons_succ]
    exact OpStep.val (v := .bool true) (w' := w5) (by go_simp) (by kernel_rfl) (Below.refl _ _) rfl
  · refine StepAt.mk rfl [(62, 133)] (by kernel_rfl) (by kernel_rfl) (fun vals w5 hB hD => ?_)
    have d62 := hD (62, 133) (by simp)
    clear hD
    simp only [List.foldl_cons] at *
    simp only [List.foldl_nil]
    generalize vals 62 = x62 at *
    change x62 = .bool true at d62
    subst d62
    try simp only [Act.put, List.getElem_toArray, List.getElem_cons_succ, List.getElem_cons_zero, List.setIfInBounds_toArray, List.set_cons_zero, List.set_cons_succ]
    exact OpStep.val (v := .bool true) (w' := w5) (by go_simp) (by kernel_rfl) (Below.refl _ _) rfl
  · refine StepAt.mk rfl [(63, 134)] (by kernel_rfl) (by kernel_rfl) (fun vals w5 hB hD => ?_)
    have d63 := hD (63, 134) (by simp)
    clear hD
    simp only [List.foldl_cons] at *
    simp only [List.foldl_nil]
    generalize vals 63 = x63 at *
    change x63 = .bool true at d63
    subst d63
    try simp only [Act.put, List.getElem_toArray, List.getElem_cons_succ, List.getElem_cons_zero, List.setIfInBounds_toArray, List.set_cons_zero, List.set_cons_succ]
    have kx := (Hb11.out.below hB Hb11.out.lt).cells.runVar (P := Try.prog) (t := 24) (fun _ => by kernel_rfl) (fun _ => by kernel_rfl)
    obtain ⟨z0, z1, z2⟩ := (Hb11.out.below hB Hb11.out.lt).cells.c3
    simp only [Nat.zero_add] at z1 z2
    exact OpStep.val (v := .agg #[.int .i64 1, .int .i64 0, .string ⟨#[]⟩]) (w' := w5) (by go_simp) (by kernel_rfl) (Below.refl _ _) rfl
  · refine StepAt.mk rfl [(63, 134)] (by kernel_rfl) (by kernel_rfl) (fun vals w5 hB hD => ?_)
    have d63 := hD (63, 134) (by simp)
    clear hD
    simp only [List.foldl_cons] at *
    simp only [List.foldl_nil]
    generalize vals 63 = x63 at *
    change x63 = .bool true at d63
    subst d63
    try simp only [Act.put, List.getElem_toArray, List.getElem_cons_succ, List.getElem_cons_zero, List.setIfInBounds_toArray, List.set_cons_zero, List.set_cons_succ]
    refine OpStep.call (f := 18) (args := #[.int .i64 0]) (by kernel_rfl) (by kernel_rfl) ?_
    exact number16_any 0 w5 _ (fun w6 hB6 => ⟨_, rfl, hB6, rfl⟩)
  · refine StepAt.mk rfl [(63, 134), (64, 135), (65, 136)] (by kernel_rfl) (by kernel_rfl) (fun vals w5 hB hD => ?_)
    have d63 := hD (63, 134) (by simp)
    have d64 := hD (64, 135) (by simp)
    have d65 := hD (65, 136) (by simp)
    clear hD
    simp only [List.foldl_cons] at *
    simp only [List.foldl_nil]
    generalize vals 63 = x63 at *
    change x63 = .bool true at d63
    subst d63
    generalize vals 64 = x64 at *
    change x64 = .agg #[.int .i64 1, .int .i64 0, .string ⟨#[]⟩] at d64
    subst d64
    generalize vals 65 = x65 at *
    change x65 = .agg #[.int .i64 1, .int .i64 0, .string ⟨#[]⟩] at d65
    subst d65
    try simp only [Act.put, List.getElem_toArray, List.getElem_cons_succ, List.getElem_cons_zero, List.setIfInBounds_toArray, List.set_cons_zero, List.set_cons_succ]
    exact OpStep.val (v := .bool true) (w' := w5) (by go_simp) (by kernel_rfl) (Below.refl _ _) rfl
  · refine StepAt.mk rfl [(63, 134), (66, 137)] (by kernel_rfl) (by kernel_rfl) (fun vals w5 hB hD => ?_)
    have d63 := hD (63, 134) (by simp)
    have d66 := hD (66, 137) (by simp)
    clear hD
    simp only [List.foldl_cons] at *
    simp only [List.foldl_nil]
    generalize vals 63 = x63 at *
    change x63 = .bool true at d63
    subst d63
    generalize vals 66 = x66 at *
    change x66 = .bool true at d66
    subst d66
    try simp only [Act.put, List.getElem_toArray, List.getElem_cons_succ, List.getElem_cons_zero, List.setIfInBounds_toArray, List.set_cons_zero, List.set_cons_succ]
    exact OpStep.val (v := .bool true) (w' := w5) (by go_simp) (by kernel_rfl) (Below.refl _ _) rfl
  · refine StepAt.mk rfl [(67, 138)] (by kernel_rfl) (by kernel_rfl) (fun vals w5 hB hD => ?_)
    have d67 := hD (67, 138) (by simp)
    clear hD
    simp only [List.foldl_cons] at *
    simp only [List.foldl_nil]
    generalize vals 67 = x67 at *
    change x67 = .bool true at d67
    subst d67
    try simp only [Act.put, List.getElem_toArray, List.getElem_cons_succ, List.getElem_cons_zero, List.setIfInBounds_toArray, List.set_cons_zero, List.set_cons_succ]
    exact OpStep.val (v := .bool true) (w' := w5) (by go_simp) (by kernel_rfl) (Below.refl _ _) rfl
  simp only [List.foldl_cons, List.foldl_nil]
  try simp only [Act.put, List.getElem_toArray, List.getElem_cons_succ, List.getElem_cons_zero, List.setIfInBounds_toArray, List.set_cons_zero, List.set_cons_succ]
  have z : vals 68 = .bool true := hV 68 (by decide)
  rw [z]
  clear z hV
  replace HB := Lib.hid (HB.out.trans (hB.mono HB.out.size))
  replace Hv1 := Lib.hid (Hv1.out.below hB)
  replace Hv5 := Lib.hid (Hv5.out.below hB)
  replace Hb7 := Lib.hid (Hb7.out.below hB Hb7.out.lt)
  replace Hb11 := Lib.hid (Hb11.out.below hB Hb11.out.lt)
  replace Hr1 := Lib.hid (AtC.below Hr1.out hB)
  replace Hx1 := Lib.hid (AtC.below Hx1.out hB)
  clear hB
  go_upto_region 9 with fail
  clear Hr1 Hx1 Hv1 Hv5 Hb7 Hb11
  obtain ⟨wl51, ewl51⟩ : ∃ x, x = wz.alloc (.cells #[.int .i64 1, .string ⟨#[]⟩, .string ⟨#[120]⟩] 39) := ⟨_, rfl⟩
  have hB : Below wz.heap.size wz wl51 := by rw [ewl51]; exact alloc_below _ _
  have hsz : wz.heap.size + 1 = wl51.heap.size := by rw [ewl51]; simp
  have hV : Ags 0 wl51.heap.size wl51 (.slice (some ⟨wz.heap.size, 0, none⟩) 1 1) [⟨1, [], [120]⟩] := by rw [ewl51]; exact agsLit wz [⟨1, [], [120]⟩] (by decide) rfl
  replace HB := Lib.hid (HB.out.trans (hB.mono HB.out.size))
  have Hwl51 := Lib.hid (hV)
  have Hewl51 := Lib.hid ewl51
  have hswl51 := Lib.hid hsz
  clear hB hV hsz ewl51
  obtain ⟨wl52, ewl52⟩ : ∃ x, x = wl51.alloc (.cells #[.int .i64 1, .string ⟨#[110]⟩, .string ⟨#[99]⟩] 39) := ⟨_, rfl⟩
  have hB : Below wl51.heap.size wl51 wl52 := by rw [ewl52]; exact alloc_below _ _
  have hsz : wz.heap.size + 1 + 1 = wl52.heap.size := by rw [ewl52]; simp; exact hswl51.out
  have hV : Ags 0 wl52.heap.size wl52 (.slice (some ⟨wz.heap.size + 1, 0, none⟩) 1 1) [⟨1, [110], [99]⟩] := by rw [ewl52]; exact agsLit wl51 [⟨1, [110], [99]⟩] (by decide) hswl51.out
  replace HB := Lib.hid (HB.out.trans (hB.mono HB.out.size))
  replace Hwl51 := Lib.hid (Sl.grow Hwl51.out Ags.loc hB)
  have Hwl52 := Lib.hid (hV)
  have Hewl52 := Lib.hid ewl52
  have hswl52 := Lib.hid hsz
  clear hB hV hsz ewl52
  obtain ⟨wl53, ewl53⟩ : ∃ x, x = wl52.alloc (.cells #[.int .i64 3, .string ⟨#[119]⟩, .string ⟨#[115]⟩] 39) := ⟨_, rfl⟩
  have hB : Below wl52.heap.size wl52 wl53 := by rw [ewl53]; exact alloc_below _ _
  have hsz : wz.heap.size + 1 + 1 + 1 = wl53.heap.size := by rw [ewl53]; simp; exact hswl52.out
  have hV : Ags 0 wl53.heap.size wl53 (.slice (some ⟨wz.heap.size + 1 + 1, 0, none⟩) 1 1) [⟨3, [119], [115]⟩] := by rw [ewl53]; exact agsLit wl52 [⟨3, [119], [115]⟩] (by decide) hswl52.out
  replace HB := Lib.hid (HB.out.trans (hB.mono HB.out.size))
  replace Hwl51 := Lib.hid (Sl.grow Hwl51.out Ags.loc hB)
  replace Hwl52 := Lib.hid (Sl.grow Hwl52.out Ags.loc hB)
  have Hwl53 := Lib.hid (hV)
  have Hewl53 := Lib.hid ewl53
  have hswl53 := Lib.hid hsz
  clear hB hV hsz ewl53
  obtain ⟨wl54, ewl54⟩ : ∃ x, x = wl53.alloc (.cells #[.int .i64 0, .string ⟨#[]⟩, .string ⟨#[115]⟩] 39) := ⟨_, rfl⟩
  have hB : Below wl53.heap.size wl53 wl54 := by rw [ewl54]; exact alloc_below _ _
  have hsz : wz.heap.size + 1 + 1 + 1 + 1 = wl54.heap.size := by rw [ewl54]; simp; exact hswl53.out
  have hV : Ags 0 wl54.heap.size wl54 (.slice (some ⟨wz.heap.size + 1 + 1 + 1, 0, none⟩) 1 1) [⟨0, [], [115]⟩] := by rw [ewl54]; exact agsLit wl53 [⟨0, [], [115]⟩] (by decide) hswl53.out
  replace HB := Lib.hid (HB.out.trans (hB.mono HB.out.size))
  replace Hwl51 := Lib.hid (Sl.grow Hwl51.out Ags.loc hB)
  replace Hwl52 := Lib.hid (Sl.grow Hwl52.out Ags.loc hB)
  replace Hwl53 := Lib.hid (Sl.grow Hwl53.out Ags.loc hB)
  have Hwl54 := Lib.hid (hV)
  have Hewl54 := Lib.hid ewl54
  have hswl54 := Lib.hid hsz
  clear hB hV hsz ewl54
  obtain ⟨wl55, ewl55⟩ : ∃ x, x = wl54.alloc (.cells #[.int .i64 6, .string ⟨#[110]⟩, .string ⟨#[115]⟩] 39) := ⟨_, rfl⟩
  have hB : Below wl54.heap.size wl54 wl55 := by rw [ewl55]; exact alloc_below _ _
  have hsz : wz.heap.size + 1 + 1 + 1 + 1 + 1 = wl55.heap.size := by rw [ewl55]; simp; exact hswl54.out
  have hV : Ags 0 wl55.heap.size wl55 (.slice (some ⟨wz.heap.size + 1 + 1 + 1 + 1, 0, none⟩) 1 1) [⟨6, [110], [115]⟩] := by rw [ewl55]; exact agsLit wl54 [⟨6, [110], [115]⟩] (by decide) hswl54.out
  replace HB := Lib.hid (HB.out.trans (hB.mono HB.out.size))
  replace Hwl51 := Lib.hid (Sl.grow Hwl51.out Ags.loc hB)
  replace Hwl52 := Lib.hid (Sl.grow Hwl52.out Ags.loc hB)
  replace Hwl53 := Lib.hid (Sl.grow Hwl53.out Ags.loc hB)
  replace Hwl54 := Lib.hid (Sl.grow Hwl54.out Ags.loc hB)
  have Hwl55 := Lib.hid (hV)
  have Hewl55 := Lib.hid ewl55
  have hswl55 := Lib.hid hsz
  clear hB hV hsz ewl55
  obtain ⟨wl56, ewl56⟩ : ∃ x, x = wl55.alloc (.cells #[.int .i64 1, .string ⟨#[]⟩, .string ⟨#[99]⟩, .int .i64 1, .string ⟨#[]⟩, .string ⟨#[99]⟩] 39) := ⟨_, rfl⟩
  have hB : Below wl55.heap.size wl55 wl56 := by rw [ewl56]; exact alloc_below _ _
  have hsz : wz.heap.size + 1 + 1 + 1 + 1 + 1 + 1 = wl56.heap.size := by rw [ewl56]; simp; exact hswl55.out
  have hV : Ags 0 wl56.heap.size wl56 (.slice (some ⟨wz.heap.size + 1 + 1 + 1 + 1 + 1, 0, none⟩) 2 2) [⟨1, [], [99]⟩, ⟨1, [], [99]⟩] := by rw [ewl56]; exact agsLit wl55 [⟨1, [], [99]⟩, ⟨1, [], [99]⟩] (by decide) hswl55.out
  replace HB := Lib.hid (HB.out.trans (hB.mono HB.out.size))
  replace Hwl51 := Lib.hid (Sl.grow Hwl51.out Ags.loc hB)
  replace Hwl52 := Lib.hid (Sl.grow Hwl52.out Ags.loc hB)
  replace Hwl53 := Lib.hid (Sl.grow Hwl53.out Ags.loc hB)
  replace Hwl54 := Lib.hid (Sl.grow Hwl54.out Ags.loc hB)
  replace Hwl55 := Lib.hid (Sl.grow Hwl55.out Ags.loc hB)
  have Hwl56 := Lib.hid (hV)
  have Hewl56 := Lib.hid ewl56
  have hswl56 := Lib.hid hsz
  clear hB hV hsz ewl56
  obtain ⟨wl57, ewl57⟩ : ∃ x, x = wl56.alloc (.cells #[.slice (some ⟨wz.heap.size, 0, none⟩) 1 1, .slice (some ⟨wz.heap.size + 1, 0, none⟩) 1 1, .slice (some ⟨wz.heap.size + 1 + 1, 0, none⟩) 1 1, .slice (some ⟨wz.heap.size + 1 + 1 + 1, 0, none⟩) 1 1, .slice (some ⟨wz.heap.size + 1 + 1 + 1 + 1, 0, none⟩) 1 1, .slice (some ⟨wz.heap.size + 1 + 1 + 1 + 1 + 1, 0, none⟩) 2 2] 40) := ⟨_, rfl⟩
  have hB : Below wl56.heap.size wl56 wl57 := by rw [ewl57]; exact alloc_below _ _
  have hl : AtC wl57 (wz.heap.size + 1 + 1 + 1 + 1 + 1 + 1) 0 [.slice (some ⟨wz.heap.size, 0, none⟩) 1 1, .slice (some ⟨wz.heap.size + 1, 0, none⟩) 1 1, .slice (some ⟨wz.heap.size + 1 + 1, 0, none⟩) 1 1, .slice (some ⟨wz.heap.size + 1 + 1 + 1, 0, none⟩) 1 1, .slice (some ⟨wz.heap.size + 1 + 1 + 1 + 1, 0, none⟩) 1 1, .slice (some ⟨wz.heap.size + 1 + 1 + 1 + 1 + 1, 0, none⟩) 2 2] := ⟨by rw [ewl57]; exact CellsAt.newAt _ [.slice (some ⟨wz.heap.size, 0, none⟩) 1 1, .slice (some ⟨wz.heap.size + 1, 0, none⟩) 1 1, .slice (some ⟨wz.heap.size + 1 + 1, 0, none⟩) 1 1, .slice (some ⟨wz.heap.size + 1 + 1 + 1, 0, none⟩) 1 1, .slice (some ⟨wz.heap.size + 1 + 1 + 1 + 1, 0, none⟩) 1 1, .slice (some ⟨wz.heap.size + 1 + 1 + 1 + 1 + 1, 0, none⟩) 2 2] _ hswl56.out, by rw [ewl57, hswl56.out]; simp⟩
  replace HB := Lib.hid (HB.out.trans (hB.mono HB.out.size))
  replace Hwl51 := Lib.hid (Sl.grow Hwl51.out Ags.loc hB)
  replace Hwl52 := Lib.hid (Sl.grow Hwl52.out Ags.loc hB)
  replace Hwl53 := Lib.hid (Sl.grow Hwl53.out Ags.loc hB)
  replace Hwl54 := Lib.hid (Sl.grow Hwl54.out Ags.loc hB)
  replace Hwl55 := Lib.hid (Sl.grow Hwl55.out Ags.loc hB)
  replace Hwl56 := Lib.hid (Sl.grow Hwl56.out Ags.loc hB)
  have Hlist := Lib.hid (hl)
  have Hewl57 := Lib.hid ewl57
  clear hB hl ewl57
  go_wp2_with fail
  rw [← Hewl51.out, ← Hewl52.out, ← Hewl53.out, ← Hewl54.out, ← Hewl55.out, ← Hewl56.out, ← Hewl57.out]
  clear Hewl51 Hewl52 Hewl53 Hewl54 Hewl55 Hewl56 Hewl57
  obtain ⟨bL, ebL⟩ : ∃ b, b = wz.heap.size + 1 + 1 + 1 + 1 + 1 + 1 := ⟨_, rfl⟩
  rw [← ebL] at Hlist ⊢
  have HLA : Hid (∀ W k, k < 6 → Below wl57.heap.size wl57 W → ∃ p n q, W.cell? ⟨bL, k, none⟩ = some (.slice p n q) ∧ n = (([[⟨1, [], [120]⟩], [⟨1, [110], [99]⟩], [⟨3, [119], [115]⟩], [⟨0, [], [115]⟩], [⟨6, [110], [115]⟩], [⟨1, [], [99]⟩, ⟨1, [], [99]⟩]] : List (List Ag)).getD k []).length ∧ Ags 0 W.heap.size W (.slice p n q) (([[⟨1, [], [120]⟩], [⟨1, [110], [99]⟩], [⟨3, [119], [115]⟩], [⟨0, [], [115]⟩], [⟨6, [110], [115]⟩], [⟨1, [], [99]⟩, ⟨1, [], [99]⟩]] : List (List Ag)).getD k [])) := Lib.hid (fun W k hk hB => by
    have hl := (AtC.below Hlist.out hB).cells
    rcases (show k = 0 ∨ k = 1 ∨ k = 2 ∨ k = 3 ∨ k = 4 ∨ k = 5 by omega) with rfl | rfl | rfl | rfl | rfl | rfl
    · exact ⟨_, _, _, by simpa using hl 0 _ rfl, rfl, Sl.grow Hwl51.out Ags.loc hB⟩
    · exact ⟨_, _, _, by simpa using hl 1 _ rfl, rfl, Sl.grow Hwl52.out Ags.loc hB⟩
    · exact ⟨_, _, _, by simpa using hl 2 _ rfl, rfl, Sl.grow Hwl53.out Ags.loc hB⟩
    · exact ⟨_, _, _, by simpa using hl 3 _ rfl, rfl, Sl.grow Hwl54.out Ags.loc hB⟩
    · exact ⟨_, _, _, by simpa using hl 4 _ rfl, rfl, Sl.grow Hwl55.out Ags.loc hB⟩
    · exact ⟨_, _, _, by simpa using hl 5 _ rfl, rfl, Sl.grow Hwl56.out Ags.loc hB⟩)
  have HbL : Hid (∀ W, Below wl57.heap.size wl57 W → bL < W.heap.size) := Lib.hid (fun W hB => (AtC.below Hlist.out hB).lt)
  have HLE : Hid (∀ k, k < 6 → foldErr [[120], [110]] [[120]] (([[⟨1, [], [120]⟩], [⟨1, [110], [99]⟩], [⟨3, [119], [115]⟩], [⟨0, [], [115]⟩], [⟨6, [110], [115]⟩], [⟨1, [], [99]⟩, ⟨1, [], [99]⟩]] : List (List Ag)).getD k []) someR = 2 ∧ (([[⟨1, [], [120]⟩], [⟨1, [110], [99]⟩], [⟨3, [119], [115]⟩], [⟨0, [], [115]⟩], [⟨6, [110], [115]⟩], [⟨1, [], [99]⟩, ⟨1, [], [99]⟩]] : List (List Ag)).getD k []).length ≤ 2) := Lib.hid (by decide +kernel)
  clear Hlist
  clear Hwl51 Hwl52 Hwl53 Hwl54 Hwl55 Hwl56
  clear ebL
  generalize ([[⟨1, [], [120]⟩], [⟨1, [110], [99]⟩], [⟨3, [119], [115]⟩], [⟨0, [], [115]⟩], [⟨6, [110], [115]⟩], [⟨1, [], [99]⟩, ⟨1, [], [99]⟩]] : List (List Ag)) = LL at *
  go_loopw [14, 154] (fun t14 t154 wr => ∃ k : Nat, k ≤ 6 ∧ t154 = .int .i64 k ∧ t14 = .bool true ∧ Below wl57.heap.size wl57 wr) (fun _ t154 _ => 6 - (intOf t154).toNat)
  case atStart => exact ⟨0, by omega, rfl, rfl, Below.refl _ _⟩
  case round =>
    obtain ⟨k, hk, rfl, rfl, hB⟩ := hrel
    obtain ⟨wo, ewo⟩ : ∃ x, x = wr := ⟨_, rfl⟩
    subst ewo
    have HBk := Lib.hid hB
    have hzk := hB.size
    have kk0 : (0 : Int) ≤ (k : Int) := by omega
    clear hB
    by_cases hlt : k < 6
    · have kkl : (k : Int) < 6 := by omega
      obtain ⟨pk, nk, qk, hck, -, -⟩ := HLA.out wo k hlt HBk.out
      go_wp2_with fail
      refine some16_P wo _ (fun ws v hBs hV => ?_)
      obtain ⟨p1, q1, p2, q2, rfl, hV⟩ := hV
      have HV := Lib.hid hV
      have HBs := Lib.hid hBs
      have hlit := Sl.lit (α := S) (enc := strE) (size := 1) (fun _ => rfl) ws [[120]] 9 rfl (by decide)
      have hBl := alloc_below ws (.cells #[.string ⟨#[120]⟩] 9)
      simp only [List.flatMap_cons, List.flatMap_nil, strE, List.cons_append, List.nil_append, List.length_cons, List.length_nil, Nat.zero_add] at hlit
      have hBw := HBk.out.trans ((hBs.trans (hBl.mono hBs.size)).mono hzk)
      obtain ⟨p3, n3, q3, hc3, -, hag⟩ := HLA.out _ k hlt hBw
      have hsame : Value.slice p3 n3 q3 = .slice pk nk qk := by
        have h1 := (World.cell?_of_block (a := ⟨bL, k, none⟩) ((hBs.trans (hBl.mono hBs.size)).block bL (HbL.out wo HBk.out))).trans hck
        rw [hc3] at h1
        injection h1
      rw [hsame] at hag
      clear hBs hV hck
      have HBl := Lib.hid hBl
      have Hlit := Lib.hid hlit
      have Hag := Lib.hid hag
      have HBw := Lib.hid hBw
      clear hBl hlit hag hBw hc3 hsame
      go_wp2_with fail
      generalize ws.alloc (.cells #[.string ⟨#[120]⟩] 9) = wt at *
      refine Fold_K (la := LL.getD k []) (cols := [[120]]) (HV.out.below HBl.out) Hlit.out Hag.out (by decide) (by have := (HLE.out k hlt).2; omega) (by decide) (by decide +kernel) (e := 2) (co := []) (lo := []) (HLE.out k hlt).1 (okL_no (by decide) _) (okL_no (by decide) _) _ (fun wf v hBf hV => ?_)
      obtain ⟨p5, q5, p6, q6, ev, hV⟩ := hV
      replace ev : v = .agg #[.slice p5 0 q5, .slice p6 0 q6] := ev
      subst ev
      have Hn := Lib.hid (HBw.out.trans ((hBf.trans ((alloc_below wf (.cells #[.slice p5 0 q5, .slice p6 0 q6] 34)).mono hBf.size)).mono HBw.out.size))
      clear hBf hV
      go_wp2_with fail
      go_roundw
      case rel => exact ⟨k + 1, by omega, by go_num, rfl, Hn.out⟩
      case measure => simp [intOf]; omega
    · obtain rfl : k = 6 := by omega
      have llt : ¬ ((6 : Nat) : Int) < 6 := by omega
      have hB := HBk.out
      clear HLA HLE HbL HBk hk kk0 hlt hzk
      replace HB := Lib.hid (HB.out.trans (hB.mono HB.out.size))
      clear hB llt
      go_wp2_with fail
      refine some16_P wo _ (fun wc58 v hB hV => ?_)
      obtain ⟨p59, q60, p61, q62, rfl, hV⟩ := hV
      replace HB := Lib.hid (HB.out.trans (hB.mono HB.out.size))
      have Hrel63 := Lib.hid (show (Pd.rel _ _).says _ _ from ⟨_, _, _, _, rfl, hV⟩)
      clear hB hV
      obtain ⟨wl64, ewl64⟩ : ∃ x, x = wc58.alloc (.cells #[.string ⟨#[120]⟩, .string ⟨#[120]⟩] 9) := ⟨_, rfl⟩
      have hB : Below wc58.heap.size wc58 wl64 := by rw [ewl64]; exact alloc_below _ _
      have hsz : wc58.heap.size + 1 = wl64.heap.size := by rw [ewl64]; simp
      have hV : (Pd.strs [[120], [120]]).says (.slice (some ⟨wc58.heap.size, 0, none⟩) 2 2) wl64 := by rw [ewl64]; exact Pd.strsLit wc58 [[120], [120]] (by decide) rfl
      replace HB := Lib.hid (HB.out.trans (hB.mono HB.out.size))
      replace Hrel63 := Lib.hid (Pd.step Hrel63.out hB)
      have Hwl64 := Lib.hid (hV)
      have Hewl64 := Lib.hid ewl64
      have hswl64 := Lib.hid hsz
      clear hB hV hsz ewl64
      go_wp2_with fail
      rw [← Hewl64.out]
      clear Hewl64
      refine Fold_K  (la := []) (relH Hrel63.out) Hwl64.out (show Ags 0 (wl64).heap.size wl64 (.slice none 0 0) [] from Sl.nil _ _ _ _ _) (by decide) (by decide) (by decide) (by decide +kernel) (e := 2) (co := []) (lo := []) (by decide +kernel) (by decide +kernel) (by decide +kernel) _ (fun wc65 v hB hV => ?_)
      obtain ⟨p66, q67, p68, q69, rfl, hV⟩ := hV
      replace HB := Lib.hid (HB.out.trans (hB.mono HB.out.size))
      replace Hrel63 := Lib.hid (Pd.step Hrel63.out hB)
      replace Hwl64 := Lib.hid (Pd.step Hwl64.out hB)
      have Hrel70 := Lib.hid (show (Pd.rel _ _).says _ _ from ⟨_, _, _, _, rfl, hV⟩)
      clear hB hV
      go_upto_region 16 with fail
      have hb := RelH.box (n := wc65.heap.size) (relH Hrel70.out) rfl
      have hB := alloc_below wc65 (.cells #[.slice p66 0 q67, .slice p68 0 q69] 34)
      try simp only [List.length_cons, List.length_nil, Nat.zero_add, Nat.reduceAdd] at hb
      generalize wc65.alloc (.cells #[.slice p66 0 q67, .slice p68 0 q69] 34) = w71 at *
      obtain ⟨b19, eb19⟩ : ∃ b, b = wc65.heap.size := ⟨_, rfl⟩
      rw [← eb19] at hb ⊢
      clear eb19
      replace HB := Lib.hid (HB.out.trans (hB.mono HB.out.size))
      replace Hrel63 := Lib.hid (Pd.step Hrel63.out hB)
      replace Hwl64 := Lib.hid (Pd.step Hwl64.out hB)
      replace Hrel70 := Lib.hid (Pd.step Hrel70.out hB)
      have Hv19 := Lib.hid (hb)
      clear hB hb
      clear Hrel70
      clear Hrel63 Hwl64
      clear Hv19
      go_wp2_with fail
      refine some16_P w71 _ (fun wc72 v hB hV => ?_)
      obtain ⟨p73, q74, p75, q76, rfl, hV⟩ := hV
      replace HB := Lib.hid (HB.out.trans (hB.mono HB.out.size))
      have Hrel77 := Lib.hid (show (Pd.rel _ _).says _ _ from ⟨_, _, _, _, rfl, hV⟩)
      clear hB hV
      obtain ⟨wl78, ewl78⟩ : ∃ x, x = wc72.alloc (.cells #[.string ⟨#[119]⟩] 9) := ⟨_, rfl⟩
      have hB : Below wc72.heap.size wc72 wl78 := by rw [ewl78]; exact alloc_below _ _
      have hsz : wc72.heap.size + 1 = wl78.heap.size := by rw [ewl78]; simp
      have hV : (Pd.strs [[119]]).says (.slice (some ⟨wc72.heap.size, 0, none⟩) 1 1) wl78 := by rw [ewl78]; exact Pd.strsLit wc72 [[119]] (by decide) rfl
      replace HB := Lib.hid (HB.out.trans (hB.mono HB.out.size))
      replace Hrel77 := Lib.hid (Pd.step Hrel77.out hB)
      have Hwl78 := Lib.hid (hV)
      have Hewl78 := Lib.hid ewl78
      have hswl78 := Lib.hid hsz
      clear hB hV hsz ewl78
      go_wp2_with fail
      rw [← Hewl78.out]
      clear Hewl78
      refine Groups_K  (relH Hrel77.out) Hwl78.out (by decide) (e := 2) (rs := []) (by decide +kernel) (by decide +kernel) _ (fun wc79 v hB hV => ?_)
      obtain ⟨p80, q81, ev⟩ := RLs.slice hV
      replace ev : v = .slice p80 0 q81 := ev
      subst ev
      replace HB := Lib.hid (HB.out.trans (hB.mono HB.out.size))
      replace Hrel77 := Lib.hid (Pd.step Hrel77.out hB)
      replace Hwl78 := Lib.hid (Pd.step Hwl78.out hB)
      clear hB hV
      go_upto_region 17 with fail
      clear Hrel77 Hwl78
      go_wp2_with fail
      refine some16_P wc79 _ (fun wc82 v hB hV => ?_)
      obtain ⟨p83, q84, p85, q86, rfl, hV⟩ := hV
      replace HB := Lib.hid (HB.out.trans (hB.mono HB.out.size))
      have Hrel87 := Lib.hid (show (Pd.rel _ _).says _ _ from ⟨_, _, _, _, rfl, hV⟩)
      clear hB hV
      go_wp2_with fail
      refine Groups_K (cols := []) (relH Hrel87.out) (show Strs 0 (wc82).heap.size wc82 (.slice none 0 0) [] from Sl.nil _ _ _ _ _) (by decide) (e := 0) (rs := [[r16 [97] [1], r16 [97] [5], r16 [98] [2]]]) (by decide +kernel) (by decide +kernel) _ (fun wc88 v hB hV => ?_)
      obtain ⟨p89, q90, ev⟩ := RLs.slice hV
      replace ev : v = .slice p89 1 q90 := ev
      subst ev
      replace HB := Lib.hid (HB.out.trans (hB.mono HB.out.size))
      replace Hrel87 := Lib.hid (Pd.step Hrel87.out hB)
      have Hls := Lib.hid (hV)
      clear hB hV
      go_upto_region 18 with fail
      clear Hrel87
      obtain ⟨wl91, ewl91⟩ : ∃ x, x = wc88.alloc (.cells #[.string ⟨#[120]⟩] 9) := ⟨_, rfl⟩
      have hB : Below wc88.heap.size wc88 wl91 := by rw [ewl91]; exact alloc_below _ _
      have hsz : wc88.heap.size + 1 = wl91.heap.size := by rw [ewl91]; simp
      have hV : (Pd.strs [[120]]).says (.slice (some ⟨wc88.heap.size, 0, none⟩) 1 1) wl91 := by rw [ewl91]; exact Pd.strsLit wc88 [[120]] (by decide) rfl
      replace HB := Lib.hid (HB.out.trans (hB.mono HB.out.size))
      replace Hls := Lib.hid (RLs.kept Hls.out hB)
      have Hwl91 := Lib.hid (hV)
      have Hewl91 := Lib.hid ewl91
      have hswl91 := Lib.hid hsz
      clear hB hV hsz ewl91
      go_wp2_with fail
      rw [← Hewl91.out]
      clear Hewl91
      refine Groups_K (cols := []) (ac := [[120]]) (l := []) ⟨Hwl91.out, Sl.nil _ _ _ _ _⟩ (show Strs 0 (wl91).heap.size wl91 (.slice none 0 0) [] from Sl.nil _ _ _ _ _) (by decide) (e := 0) (rs := []) (by decide +kernel) (by decide +kernel) _ (fun wc92 v hB hV => ?_)
      obtain ⟨p93, q94, ev⟩ := RLs.slice hV
      replace ev : v = .slice p93 0 q94 := ev
      subst ev
      replace HB := Lib.hid (HB.out.trans (hB.mono HB.out.size))
      replace Hwl91 := Lib.hid (Pd.step Hwl91.out hB)
      replace Hls := Lib.hid (RLs.kept Hls.out hB)
      clear hB hV
      go_upto_region 19 with fail
      clear Hwl91
      go_wp2_with fail
      refine some16_P wc92 _ (fun wc95 v hB hV => ?_)
      obtain ⟨p96, q97, p98, q99, rfl, hV⟩ := hV
      replace HB := Lib.hid (HB.out.trans (hB.mono HB.out.size))
      replace Hls := Lib.hid (RLs.kept Hls.out hB)
      have Hrel100 := Lib.hid (show (Pd.rel _ _).says _ _ from ⟨_, _, _, _, rfl, hV⟩)
      clear hB hV
      obtain ⟨wl101, ewl101⟩ : ∃ x, x = wc95.alloc (.cells #[.string ⟨#[120]⟩] 9) := ⟨_, rfl⟩
      have hB : Below wc95.heap.size wc95 wl101 := by rw [ewl101]; exact alloc_below _ _
      have hsz : wc95.heap.size + 1 = wl101.heap.size := by rw [ewl101]; simp
      have hV : (Pd.strs [[120]]).says (.slice (some ⟨wc95.heap.size, 0, none⟩) 1 1) wl101 := by rw [ewl101]; exact Pd.strsLit wc95 [[120]] (by decide) rfl
      replace HB := Lib.hid (HB.out.trans (hB.mono HB.out.size))
      replace Hrel100 := Lib.hid (Pd.step Hrel100.out hB)
      replace Hls := Lib.hid (RLs.kept Hls.out hB)
      have Hwl101 := Lib.hid (hV)
      have Hewl101 := Lib.hid ewl101
      have hswl101 := Lib.hid hsz
      clear hB hV hsz ewl101
      go_wp2_with fail
      rw [← Hewl101.out]
      clear Hewl101
      refine Fold_K  (la := []) (relH Hrel100.out) Hwl101.out (show Ags 0 (wl101).heap.size wl101 (.slice none 0 0) [] from Sl.nil _ _ _ _ _) (by decide) (by decide) (by decide) (by decide +kernel) (e := 0) (co := [[120]]) (lo := [r16 [97] [], r16 [98] []]) (by decide +kernel) (by decide +kernel) (by decide +kernel) _ (fun wc102 v hB hV => ?_)
      obtain ⟨p103, q104, p105, q106, rfl, hV⟩ := hV
      replace HB := Lib.hid (HB.out.trans (hB.mono HB.out.size))
      replace Hrel100 := Lib.hid (Pd.step Hrel100.out hB)
      replace Hwl101 := Lib.hid (Pd.step Hwl101.out hB)
      replace Hls := Lib.hid (RLs.kept Hls.out hB)
      have Hrel107 := Lib.hid (show (Pd.rel _ _).says _ _ from ⟨_, _, _, _, rfl, hV⟩)
      clear hB hV
      go_upto_region 20 with fail
      have hb := RelH.box (n := wc102.heap.size) (relH Hrel107.out) rfl
      have hB := alloc_below wc102 (.cells #[.slice p103 1 q104, .slice p105 2 q106] 34)
      try simp only [List.length_cons, List.length_nil, Nat.zero_add, Nat.reduceAdd] at hb
      generalize wc102.alloc (.cells #[.slice p103 1 q104, .slice p105 2 q106] 34) = w108 at *
      obtain ⟨b27, eb27⟩ : ∃ b, b = wc102.heap.size := ⟨_, rfl⟩
      rw [← eb27] at hb ⊢
      clear eb27
      replace HB := Lib.hid (HB.out.trans (hB.mono HB.out.size))
      replace Hrel100 := Lib.hid (Pd.step Hrel100.out hB)
      replace Hwl101 := Lib.hid (Pd.step Hwl101.out hB)
      replace Hrel107 := Lib.hid (Pd.step Hrel107.out hB)
      replace Hls := Lib.hid (RLs.kept Hls.out hB)
      have Hv27 := Lib.hid (hb)
      clear hB hb
      clear Hrel107
      clear Hrel100 Hwl101
      obtain ⟨lo0, hlo0⟩ : ∃ n : Nat, RLs n w108 (.slice p89 1 q90) [[120], [110]] [[r16 [97] [1], r16 [97] [5], r16 [98] [2]]] := ⟨_, Hls.out⟩
      obtain ⟨hs0, bs0, hhs, hbs, ho0, -, hi0⟩ := hlo0
      have h1l : hs0.length = 1 := hhs
      obtain ⟨hh0, rfl⟩ : ∃ x, hs0 = [x] := List.length_eq_one_iff.1 h1l
      have h1b : bs0.length = 1 := hbs
      obtain ⟨bb0, rfl⟩ : ∃ x, bs0 = [x] := List.length_eq_one_iff.1 h1b
      obtain ⟨-, -, r3, -⟩ := hi0 0 (by simp) (by simp) (by simp)
      simp only [List.getElem_cons_zero] at r3
      obtain ⟨hsk, hRk, -, -⟩ := r3.rows
      obtain ⟨pc0, qc0, epc⟩ := Own.slice r3.cols
      obtain ⟨pl0, ql0, epl⟩ := Own.slice hRk.own
      rw [hRk.len] at epl
      replace epc : hh0.c.v = .slice pc0 2 qc0 := epc
      replace epl : hh0.l.v = .slice pl0 3 ql0 := epl
      have hrel : RelH w108 pc0 qc0 pl0 ql0 [[120], [110]] [r16 [97] [1], r16 [97] [5], r16 [98] [2]] := ⟨by have h := (OwnT.sl r3.cols).mono Strs.loc (Nat.zero_le _) (Nat.le_refl _); rw [epc] at h; exact h, by have h := hRk.rws.mono rowE_loc (Nat.zero_le _) (Nat.le_refl _); rw [epl] at h; exact h⟩
      obtain ⟨gg0, cg0, eg0, -, hgg0, -, -, hcg0, -⟩ := Own.form ho0 (by simp)
      injection eg0 with eg0 lz1 lz2
      clear lz1 lz2
      subst eg0
      have hat0 : AtC w108 gg0 0 [.slice pc0 2 qc0, .slice pl0 3 ql0] := ⟨by
        have h := hcg0
        simp only [List.flatMap_cons, List.flatMap_nil, List.append_nil, RH.enc, epc, epl] at h
        exact h, hgg0⟩
      have Hrel0 := Lib.hid (hrel)
      have Hat0 := Lib.hid (hat0)
      clear hhs hbs ho0 hi0 h1l h1b r3 hRk epc epl hrel hcg0 hat0 hgg0
      clear Hls
      refine wp_region_steps w108 (Pds [.const (.int .i64 2), .const (.bool true), .const (.bool true), .const (.int .i64 2), .const (.bool true), .const (.bool true), .const (.bool true), .const (.int .i64 0), .const (.bool true), .const (.bool true), .const (.bool true), .const (.slice (some ⟨gg0, 0, none⟩) 1 q90), .const (.int .i64 1), .const (.bool true), .const (.bool true), .const (.bool true), .const (.slice (some ⟨gg0, 0, none⟩) 1 q90), .const (.pointer (some ⟨gg0, 0, none⟩)), .rel [[120], [110]] [r16 [97] [1], r16 [97] [5], r16 [98] [2]], .rel [[120], [110]] someR, .const (.bool true), .const (.bool true), .const (.bool true), .const (.int .i64 0), .const (.bool true), .const (.bool true), .const (.bool true), .const (.slice p93 0 q94), .const (.int .i64 0), .const (.bool true), .const (.bool true), .const (.bool true), .const (.int .i64 0), .const (.bool true), .const (.bool true), .const (.bool true), .const (.pointer (some ⟨b27, 1, none⟩)), .const (.slice p105 2 q106), .const (.int .i64 2), .const (.bool true), .const (.bool true), .const (.bool true)]) 42 [(0, 200), (1, 201), (2, 202), (3, 203), (4, 204), (5, 205), (6, 206), (7, 207), (8, 208), (9, 209), (10, 210), (11, 211), (12, 212), (13, 213), (14, 214), (15, 215), (16, 216), (17, 217), (18, 218), (19, 219), (20, 220), (21, 221), (22, 222), (23, 223), (24, 224), (25, 225), (26, 226), (27, 227), (28, 228), (29, 229), (30, 230), (31, 231), (32, 232), (33, 233), (34, 234), (35, 235), (36, 236), (37, 237), (38, 238), (39, 239), (40, 240), (41, 29)] (by kernel_rfl) (by kernel_rfl) (by kernel_rfl) (by kernel_rfl) (by kernel_rfl) Pds.step ⟨?_, ?_, ?_, ?_, ?_, ?_, ?_, ?_, ?_, ?_, ?_, ?_, ?_, ?_, ?_, ?_, ?_, ?_, ?_, ?_, ?_, ?_, ?_, ?_, ?_, ?_, ?_, ?_, ?_, ?_, ?_, ?_, ?_, ?_, ?_, ?_, ?_, ?_, ?_, ?_, ?_, ?_, trivial⟩ (fun vals wz hB hV => ?_)
      · refine StepAt.mk rfl [] (by kernel_rfl) (by kernel_rfl) (fun vals w5 hB hD => ?_)
        clear hD
        simp only [List.foldl_nil]
        try simp only [Act.put, List.getElem_toArray, List.getElem_cons_succ, List.getElem_cons_zero, List.setIfInBounds_toArray, List.set_cons_zero, List.set_cons_succ]
        exact OpStep.val (v := .int .i64 2) (w' := w5) (by go_simp) (by kernel_rfl) (Below.refl _ _) rfl
      · refine StepAt.mk rfl [(0, 200)] (by kernel_rfl) (by kernel_rfl) (fun vals w5 hB hD => ?_)
        have d0 := hD (0, 200) (by simp)
        clear hD
        simp only [List.foldl_cons] at *
        simp only [List.foldl_nil]
        generalize vals 0 = x0 at *
        change x0 = .int .i64 2 at d0
        subst d0
        try simp only [Act.put, List.getElem_toArray, List.getElem_cons_succ, List.getElem_cons_zero, List.setIfInBounds_toArray, List.set_cons_zero, List.set_cons_succ]
        exact OpStep.val (v := .bool true) (w' := w5) (by go_simp) (by kernel_rfl) (Below.refl _ _) rfl
      · refine StepAt.mk rfl [(1, 201)] (by kernel_rfl) (by kernel_rfl) (fun vals w5 hB hD => ?_)
        have d1 := hD (1, 201) (by simp)
        clear hD
        simp only [List.foldl_cons] at *
        simp only [List.foldl_nil]
        generalize vals 1 = x1 at *
        change x1 = .bool true at d1
        subst d1
        try simp only [Act.put, List.getElem_toArray, List.getElem_cons_succ, List.getElem_cons_zero, List.setIfInBounds_toArray, List.set_cons_zero, List.set_cons_succ]
        exact OpStep.val (v := .bool true) (w' := w5) (by go_simp) (by kernel_rfl) (Below.refl _ _) rfl
      · refine StepAt.mk rfl [(2, 202)] (by kernel_rfl) (by kernel_rfl) (fun vals w5 hB hD => ?_)
        have d2 := hD (2, 202) (by simp)
        clear hD
        simp only [List.foldl_cons] at *
        simp only [List.foldl_nil]
        generalize vals 2 = x2 at *
        change x2 = .bool true at d2
        subst d2
        try simp only [Act.put, List.getElem_toArray, List.getElem_cons_succ, List.getElem_cons_zero, List.setIfInBounds_toArray, List.set_cons_zero, List.set_cons_succ]
        exact OpStep.val (v := .int .i64 2) (w' := w5) (by go_simp) (by kernel_rfl) (Below.refl _ _) rfl
      · refine StepAt.mk rfl [(2, 202), (3, 203)] (by kernel_rfl) (by kernel_rfl) (fun vals w5 hB hD => ?_)
        have d2 := hD (2, 202) (by simp)
        have d3 := hD (3, 203) (by simp)
        clear hD
        simp only [List.foldl_cons] at *
        simp only [List.foldl_nil]
        generalize vals 2 = x2 at *
        change x2 = .bool true at d2
        subst d2
        generalize vals 3 = x3 at *
        change x3 = .int .i64 2 at d3
        subst d3
        try simp only [Act.put, List.getElem_toArray, List.getElem_cons_succ, List.getElem_cons_zero, List.setIfInBounds_toArray, List.set_cons_zero, List.set_cons_succ]
        exact OpStep.val (v := .bool true) (w' := w5) (by go_simp) (by kernel_rfl) (Below.refl _ _) rfl
      · refine StepAt.mk rfl [(2, 202), (4, 204)] (by kernel_rfl) (by kernel_rfl) (fun vals w5 hB hD => ?_)
        have d2 := hD (2, 202) (by simp)
        have d4 := hD (4, 204) (by simp)
        clear hD
        simp only [List.foldl_cons] at *
        simp only [List.foldl_nil]
        generalize vals 2 = x2 at *
        change x2 = .bool true at d2
        subst d2
        generalize vals 4 = x4 at *
        change x4 = .bool true at d4
        subst d4
        try simp only [Act.put, List.getElem_toArray, List.getElem_cons_succ, List.getElem_cons_zero, List.setIfInBounds_toArray, List.set_cons_zero, List.set_cons_succ]
        exact OpStep.val (v := .bool true) (w' := w5) (by go_simp) (by kernel_rfl) (Below.refl _ _) rfl
      · refine StepAt.mk rfl [(5, 205)] (by kernel_rfl) (by kernel_rfl) (fun vals w5 hB hD => ?_)
        have d5 := hD (5, 205) (by simp)
        clear hD
        simp only [List.foldl_cons] at *
        simp only [List.foldl_nil]
        generalize vals 5 = x5 at *
        change x5 = .bool true at d5
        subst d5
        try simp only [Act.put, List.getElem_toArray, List.getElem_cons_succ, List.getElem_cons_zero, List.setIfInBounds_toArray, List.set_cons_zero, List.set_cons_succ]
        exact OpStep.val (v := .bool true) (w' := w5) (by go_simp) (by kernel_rfl) (Below.refl _ _) rfl
      · refine StepAt.mk rfl [(6, 206)] (by kernel_rfl) (by kernel_rfl) (fun vals w5 hB hD => ?_)
        have d6 := hD (6, 206) (by simp)
        clear hD
        simp only [List.foldl_cons] at *
        simp only [List.foldl_nil]
        generalize vals 6 = x6 at *
        change x6 = .bool true at d6
        subst d6
        try simp only [Act.put, List.getElem_toArray, List.getElem_cons_succ, List.getElem_cons_zero, List.setIfInBounds_toArray, List.set_cons_zero, List.set_cons_succ]
        exact OpStep.val (v := .int .i64 0) (w' := w5) (by go_simp) (by kernel_rfl) (Below.refl _ _) rfl
      · refine StepAt.mk rfl [(6, 206), (7, 207)] (by kernel_rfl) (by kernel_rfl) (fun vals w5 hB hD => ?_)
        have d6 := hD (6, 206) (by simp)
        have d7 := hD (7, 207) (by simp)
        clear hD
        simp only [List.foldl_cons] at *
        simp only [List.foldl_nil]
        generalize vals 6 = x6 at *
        change x6 = .bool true at d6
        subst d6
        generalize vals 7 = x7 at *
        change x7 = .int .i64 0 at d7
        subst d7
        try simp only [Act.put, List.getElem_toArray, List.getElem_cons_succ, List.getElem_cons_zero, List.setIfInBounds_toArray, List.set_cons_zero, List.set_cons_succ]
        exact OpStep.val (v := .bool true) (w' := w5) (by go_simp) (by kernel_rfl) (Below.refl _ _) rfl
      · refine StepAt.mk rfl [(6, 206), (8, 208)] (by kernel_rfl) (by kernel_rfl) (fun vals w5 hB hD => ?_)
        have d6 := hD (6, 206) (by simp)
        have d8 := hD (8, 208) (by simp)
        clear hD
        simp only [List.foldl_cons] at *
        simp only [List.foldl_nil]
        generalize vals 6 = x6 at *
        change x6 = .bool true at d6
        subst d6
        generalize vals 8 = x8 at *
        change x8 = .bool true at d8
        subst d8
        try simp only [Act.put, List.getElem_toArray, List.getElem_cons_succ, List.getElem_cons_zero, List.setIfInBounds_toArray, List.set_cons_zero, List.set_cons_succ]
        exact OpStep.val (v := .bool true) (w' := w5) (by go_simp) (by kernel_rfl) (Below.refl _ _) rfl
      · refine StepAt.mk rfl [(9, 209)] (by kernel_rfl) (by kernel_rfl) (fun vals w5 hB hD => ?_)
        have d9 := hD (9, 209) (by simp)
        clear hD
        simp only [List.foldl_cons] at *
        simp only [List.foldl_nil]
        generalize vals 9 = x9 at *
        change x9 = .bool true at d9
        subst d9
        try simp only [Act.put, List.getElem_toArray, List.getElem_cons_succ, List.getElem_cons_zero, List.setIfInBounds_toArray, List.set_cons_zero, List.set_cons_succ]
        exact OpStep.val (v := .bool true) (w' := w5) (by go_simp) (by kernel_rfl) (Below.refl _ _) rfl
      · refine StepAt.mk rfl [(10, 210)] (by kernel_rfl) (by kernel_rfl) (fun vals w5 hB hD => ?_)
        have d10 := hD (10, 210) (by simp)
        clear hD
        simp only [List.foldl_cons] at *
        simp only [List.foldl_nil]
        generalize vals 10 = x10 at *
        change x10 = .bool true at d10
        subst d10
        try simp only [Act.put, List.getElem_toArray, List.getElem_cons_succ, List.getElem_cons_zero, List.setIfInBounds_toArray, List.set_cons_zero, List.set_cons_succ]
        exact OpStep.val (v := .slice (some ⟨gg0, 0, none⟩) 1 q90) (w' := w5) (by go_simp) (by kernel_rfl) (Below.refl _ _) rfl
      · refine StepAt.mk rfl [(10, 210), (11, 211)] (by kernel_rfl) (by kernel_rfl) (fun vals w5 hB hD => ?_)
        have d10 := hD (10, 210) (by simp)
        have d11 := hD (11, 211) (by simp)
        clear hD
        simp only [List.foldl_cons] at *
        simp only [List.foldl_nil]
        generalize vals 10 = x10 at *
        change x10 = .bool true at d10
        subst d10
        generalize vals 11 = x11 at *
        change x11 = .slice (some ⟨gg0, 0, none⟩) 1 q90 at d11
        subst d11
        try simp only [Act.put, List.getElem_toArray, List.getElem_cons_succ, List.getElem_cons_zero, List.setIfInBounds_toArray, List.set_cons_zero, List.set_cons_succ]
        exact OpStep.val (v := .int .i64 1) (w' := w5) (by go_simp) (by kernel_rfl) (Below.refl _ _) rfl
      · refine StepAt.mk rfl [(10, 210), (12, 212)] (by kernel_rfl) (by kernel_rfl) (fun vals w5 hB hD => ?_)
        have d10 := hD (10, 210) (by simp)
        have d12 := hD (12, 212) (by simp)
        clear hD
        simp only [List.foldl_cons] at *
        simp only [List.foldl_nil]
        generalize vals 10 = x10 at *
        change x10 = .bool true at d10
        subst d10
        generalize vals 12 = x12 at *
        change x12 = .int .i64 1 at d12
        subst d12
        try simp only [Act.put, List.getElem_toArray, List.getElem_cons_succ, List.getElem_cons_zero, List.setIfInBounds_toArray, List.set_cons_zero, List.set_cons_succ]
        exact OpStep.val (v := .bool true) (w' := w5) (by go_simp) (by kernel_rfl) (Below.refl _ _) rfl
      · refine StepAt.mk rfl [(10, 210), (13, 213)] (by kernel_rfl) (by kernel_rfl) (fun vals w5 hB hD => ?_)
        have d10 := hD (10, 210) (by simp)
        have d13 := hD (13, 213) (by simp)
        clear hD
        simp only [List.foldl_cons] at *
        simp only [List.foldl_nil]
        generalize vals 10 = x10 at *
        change x10 = .bool true at d10
        subst d10
        generalize vals 13 = x13 at *
        change x13 = .bool true at d13
        subst d13
        try simp only [Act.put, List.getElem_toArray, List.getElem_cons_succ, List.getElem_cons_zero, List.setIfInBounds_toArray, List.set_cons_zero, List.set_cons_succ]
        exact OpStep.val (v := .bool true) (w' := w5) (by go_simp) (by kernel_rfl) (Below.refl _ _) rfl
      · refine StepAt.mk rfl [(14, 214)] (by kernel_rfl) (by kernel_rfl) (fun vals w5 hB hD => ?_)
        have d14 := hD (14, 214) (by simp)
        clear hD
        simp only [List.foldl_cons] at *
        simp only [List.foldl_nil]
        generalize vals 14 = x14 at *
        change x14 = .bool true at d14
        subst d14
        try simp only [Act.put, List.getElem_toArray, List.getElem_cons_succ, List.getElem_cons_zero, List.setIfInBounds_toArray, List.set_cons_zero, List.set_cons_succ]
        exact OpStep.val (v := .bool true) (w' := w5) (by go_simp) (by kernel_rfl) (Below.refl _ _) rfl
      · refine StepAt.mk rfl [(15, 215)] (by kernel_rfl) (by kernel_rfl) (fun vals w5 hB hD => ?_)
        have d15 := hD (15, 215) (by simp)
        clear hD
        simp only [List.foldl_cons] at *
        simp only [List.foldl_nil]
        generalize vals 15 = x15 at *
        change x15 = .bool true at d15
        subst d15
        try simp only [Act.put, List.getElem_toArray, List.getElem_cons_succ, List.getElem_cons_zero, List.setIfInBounds_toArray, List.set_cons_zero, List.set_cons_succ]
        exact OpStep.val (v := .slice (some ⟨gg0, 0, none⟩) 1 q90) (w' := w5) (by go_simp) (by kernel_rfl) (Below.refl _ _) rfl
      · refine StepAt.mk rfl [(15, 215), (16, 216)] (by kernel_rfl) (by kernel_rfl) (fun vals w5 hB hD => ?_)
        have d15 := hD (15, 215) (by simp)
        have d16 := hD (16, 216) (by simp)
        clear hD
        simp only [List.foldl_cons] at *
        simp only [List.foldl_nil]
        generalize vals 15 = x15 at *
        change x15 = .bool true at d15
        subst d15
        generalize vals 16 = x16 at *
        change x16 = .slice (some ⟨gg0, 0, none⟩) 1 q90 at d16
        subst d16
        try simp only [Act.put, List.getElem_toArray, List.getElem_cons_succ, List.getElem_cons_zero, List.setIfInBounds_toArray, List.set_cons_zero, List.set_cons_succ]
        exact OpStep.val (v := .pointer (some ⟨gg0, 0, none⟩)) (w' := w5) (by go_simp) (by kernel_rfl) (Below.refl _ _) rfl
      · refine StepAt.mk rfl [(15, 215), (17, 217)] (by kernel_rfl) (by kernel_rfl) (fun vals w5 hB hD => ?_)
        have d15 := hD (15, 215) (by simp)
        have d17 := hD (17, 217) (by simp)
        clear hD
        simp only [List.foldl_cons] at *
        simp only [List.foldl_nil]
        generalize vals 15 = x15 at *
        change x15 = .bool true at d15
        subst d15
        generalize vals 17 = x17 at *
        change x17 = .pointer (some ⟨gg0, 0, none⟩) at d17
        subst d17
        try simp only [Act.put, List.getElem_toArray, List.getElem_cons_succ, List.getElem_cons_zero, List.setIfInBounds_toArray, List.set_cons_zero, List.set_cons_succ]
        have kc := (Hat0.out.below hB).cells
        have kx := kc.runVar (P := Try.prog) (t := 34) (fun _ => by kernel_rfl) (fun _ => by kernel_rfl)
        obtain ⟨z0, z1⟩ := kc.c2
        exact OpStep.val (v := .agg #[.slice pc0 2 qc0, .slice pl0 3 ql0]) (w' := w5) (by go_simp) (by kernel_rfl) (Below.refl _ _) (show (Pd.rel _ _).says _ _ from ⟨_, _, _, _, rfl, Hrel0.out.below hB⟩)
      · refine StepAt.mk rfl [(15, 215)] (by kernel_rfl) (by kernel_rfl) (fun vals w5 hB hD => ?_)
        have d15 := hD (15, 215) (by simp)
        clear hD
        simp only [List.foldl_cons] at *
        simp only [List.foldl_nil]
        generalize vals 15 = x15 at *
        change x15 = .bool true at d15
        subst d15
        try simp only [Act.put, List.getElem_toArray, List.getElem_cons_succ, List.getElem_cons_zero, List.setIfInBounds_toArray, List.set_cons_zero, List.set_cons_succ]
        refine OpStep.call (f := 17) (args := #[]) (by kernel_rfl) (by kernel_rfl) ?_
        exact some16_P w5 _ (fun w6 v hB6 hV => ⟨v, rfl, hB6, hV⟩)
      · refine StepAt.mk rfl [(15, 215), (18, 218), (19, 219)] (by kernel_rfl) (by kernel_rfl) (fun vals w5 hB hD => ?_)
        have d15 := hD (15, 215) (by simp)
        have d18 := hD (18, 218) (by simp)
        have d19 := hD (19, 219) (by simp)
        clear hD
        simp only [List.foldl_cons] at *
        simp only [List.foldl_nil]
        generalize vals 15 = x15 at *
        change x15 = .bool true at d15
        subst d15
        generalize vals 18 = x18 at *
        change (Pd.rel [[120], [110]] [r16 [97] [1], r16 [97] [5], r16 [98] [2]]).says x18 w5 at d18
        obtain ⟨pa18, qa18, pb18, qb18, rfl, d18⟩ := d18
        generalize vals 19 = x19 at *
        change (Pd.rel [[120], [110]] someR).says x19 w5 at d19
        obtain ⟨pa19, qa19, pb19, qb19, rfl, d19⟩ := d19
        try simp only [Act.put, List.getElem_toArray, List.getElem_cons_succ, List.getElem_cons_zero, List.setIfInBounds_toArray, List.set_cons_zero, List.set_cons_succ]
        refine OpStep.call (f := 20) (args := #[.agg #[.slice pa18 ([[120], [110]] : List S).length qa18, .slice pb18 ([r16 [97] [1], r16 [97] [5], r16 [98] [2]] : List (List V)).length qb18], .agg #[.slice pa19 ([[120], [110]] : List S).length qa19, .slice pb19 (someR : List (List V)).length qb19]]) (by kernel_rfl) (by kernel_rfl) ?_
        exact Same16_K d18 d19 (by decide +kernel) (by decide +kernel) (by decide +kernel) _ (fun w6 hB6 => ⟨_, rfl, hB6, rfl⟩)
      · refine StepAt.mk rfl [(15, 215), (20, 220)] (by kernel_rfl) (by kernel_rfl) (fun vals w5 hB hD => ?_)
        have d15 := hD (15, 215) (by simp)
        have d20 := hD (20, 220) (by simp)
        clear hD
        simp only [List.foldl_cons] at *
        simp only [List.foldl_nil]
        generalize vals 15 = x15 at *
        change x15 = .bool true at d15
        subst d15
        generalize vals 20 = x20 at *
        change x20 = .bool true at d20
        subst d20
        try simp only [Act.put, List.getElem_toArray, List.getElem_cons_succ, List.getElem_cons_zero, List.setIfInBounds_toArray, List.set_cons_zero, List.set_cons_succ]
        exact OpStep.val (v := .bool true) (w' := w5) (by go_simp) (by kernel_rfl) (Below.refl _ _) rfl
      · refine StepAt.mk rfl [(21, 221)] (by kernel_rfl) (by kernel_rfl) (fun vals w5 hB hD => ?_)
        have d21 := hD (21, 221) (by simp)
        clear hD
        simp only [List.foldl_cons] at *
        simp only [List.foldl_nil]
        generalize vals 21 = x21 at *
        change x21 = .bool true at d21
        subst d21
        try simp only [Act.put, List.getElem_toArray, List.getElem_cons_succ, List.getElem_cons_zero, List.setIfInBounds_toArray, List.set_cons_zero, List.set_cons_succ]
        exact OpStep.val (v := .bool true) (w' := w5) (by go_simp) (by kernel_rfl) (Below.refl _ _) rfl
      · refine StepAt.mk rfl [(22, 222)] (by kernel_rfl) (by kernel_rfl) (fun vals w5 hB hD => ?_)
        have d22 := hD (22, 222) (by simp)
        clear hD
        simp only [List.foldl_cons] at *
        simp only [List.foldl_nil]
        generalize vals 22 = x22 at *
        change x22 = .bool true at d22
        subst d22
        try simp only [Act.put, List.getElem_toArray, List.getElem_cons_succ, List.getElem_cons_zero, List.setIfInBounds_toArray, List.set_cons_zero, List.set_cons_succ]
        exact OpStep.val (v := .int .i64 0) (w' := w5) (by go_simp) (by kernel_rfl) (Below.refl _ _) rfl
      · refine StepAt.mk rfl [(22, 222), (23, 223)] (by kernel_rfl) (by kernel_rfl) (fun vals w5 hB hD => ?_)
        have d22 := hD (22, 222) (by simp)
        have d23 := hD (23, 223) (by simp)
        clear hD
        simp only [List.foldl_cons] at *
        simp only [List.foldl_nil]
        generalize vals 22 = x22 at *
        change x22 = .bool true at d22
        subst d22
        generalize vals 23 = x23 at *
        change x23 = .int .i64 0 at d23
        subst d23
        try simp only [Act.put, List.getElem_toArray, List.getElem_cons_succ, List.getElem_cons_zero, List.setIfInBounds_toArray, List.set_cons_zero, List.set_cons_succ]
        exact OpStep.val (v := .bool true) (w' := w5) (by go_simp) (by kernel_rfl) (Below.refl _ _) rfl
      · refine StepAt.mk rfl [(22, 222), (24, 224)] (by kernel_rfl) (by kernel_rfl) (fun vals w5 hB hD => ?_)
        have d22 := hD (22, 222) (by simp)
        have d24 := hD (24, 224) (by simp)
        clear hD
        simp only [List.foldl_cons] at *
        simp only [List.foldl_nil]
        generalize vals 22 = x22 at *
        change x22 = .bool true at d22
        subst d22
        generalize vals 24 = x24 at *
        change x24 = .bool true at d24
        subst d24
        try simp only [Act.put, List.getElem_toArray, List.getElem_cons_succ, List.getElem_cons_zero, List.setIfInBounds_toArray, List.set_cons_zero, List.set_cons_succ]
        exact OpStep.val (v := .bool true) (w' := w5) (by go_simp) (by kernel_rfl) (Below.refl _ _) rfl
      · refine StepAt.mk rfl [(25, 225)] (by kernel_rfl) (by kernel_rfl) (fun vals w5 hB hD => ?_)
        have d25 := hD (25, 225) (by simp)
        clear hD
        simp only [List.foldl_cons] at *
        simp only [List.foldl_nil]
        generalize vals 25 = x25 at *
        change x25 = .bool true at d25
        subst d25
        try simp only [Act.put, List.getElem_toArray, List.getElem_cons_succ, List.getElem_cons_zero, List.setIfInBounds_toArray, List.set_cons_zero, List.set_cons_succ]
        exact OpStep.val (v := .bool true) (w' := w5) (by go_simp) (by kernel_rfl) (Below.refl _ _) rfl
      · refine StepAt.mk rfl [(26, 226)] (by kernel_rfl) (by kernel_rfl) (fun vals w5 hB hD => ?_)
        have d26 := hD (26, 226) (by simp)
        clear hD
        simp only [List.foldl_cons] at *
        simp only [List.foldl_nil]
        generalize vals 26 = x26 at *
        change x26 = .bool true at d26
        subst d26
        try simp only [Act.put, List.getElem_toArray, List.getElem_cons_succ, List.getElem_cons_zero, List.setIfInBounds_toArray, List.set_cons_zero, List.set_cons_succ]
        exact OpStep.val (v := .slice p93 0 q94) (w' := w5) (by go_simp) (by kernel_rfl) (Below.refl _ _) rfl
      · refine StepAt.mk rfl [(26, 226), (27, 227)] (by kernel_rfl) (by kernel_rfl) (fun vals w5 hB hD => ?_)
        have d26 := hD (26, 226) (by simp)
        have d27 := hD (27, 227) (by simp)
        clear hD
        simp only [List.foldl_cons] at *
        simp only [List.foldl_nil]
        generalize vals 26 = x26 at *
        change x26 = .bool true at d26
        subst d26
        generalize vals 27 = x27 at *
        change x27 = .slice p93 0 q94 at d27
        subst d27
        try simp only [Act.put, List.getElem_toArray, List.getElem_cons_succ, List.getElem_cons_zero, List.setIfInBounds_toArray, List.set_cons_zero, List.set_cons_succ]
        exact OpStep.val (v := .int .i64 0) (w' := w5) (by go_simp) (by kernel_rfl) (Below.refl _ _) rfl
      · refine StepAt.mk rfl [(26, 226), (28, 228)] (by kernel_rfl) (by kernel_rfl) (fun vals w5 hB hD => ?_)
        have d26 := hD (26, 226) (by simp)
        have d28 := hD (28, 228) (by simp)
        clear hD
        simp only [List.foldl_cons] at *
        simp only [List.foldl_nil]
        generalize vals 26 = x26 at *
        change x26 = .bool true at d26
        subst d26
        generalize vals 28 = x28 at *
        change x28 = .int .i64 0 at d28
        subst d28
        try simp only [Act.put, List.getElem_toArray, List.getElem_cons_succ, List.getElem_cons_zero, List.setIfInBounds_toArray, List.set_cons_zero, List.set_cons_succ]
        exact OpStep.val (v := .bool true) (w' := w5) (by go_simp) (by kernel_rfl) (Below.refl _ _) rfl
      · refine StepAt.mk rfl [(26, 226), (29, 229)] (by kernel_rfl) (by kernel_rfl) (fun vals w5 hB hD => ?_)
        have d26 := hD (26, 226) (by simp)
        have d29 := hD (29, 229) (by simp)
        clear hD
        simp only [List.foldl_cons] at *
        simp only [List.foldl_nil]
        generalize vals 26 = x26 at *
        change x26 = .bool true at d26
        subst d26
        generalize vals 29 = x29 at *
        change x29 = .bool true at d29
        subst d29
        try simp only [Act.put, List.getElem_toArray, List.getElem_cons_succ, List.getElem_cons_zero, List.setIfInBounds_toArray, List.set_cons_zero, List.set_cons_succ]
        exact OpStep.val (v := .bool true) (w' := w5) (by go_simp) (by kernel_rfl) (Below.refl _ _) rfl
      · refine StepAt.mk rfl [(30, 230)] (by kernel_rfl) (by kernel_rfl) (fun vals w5 hB hD => ?_)
        have d30 := hD (30, 230) (by simp)
        clear hD
        simp only [List.foldl_cons] at *
        simp only [List.foldl_nil]
        generalize vals 30 = x30 at *
        change x30 = .bool true at d30
        subst d30
        try simp only [Act.put, List.getElem_toArray, List.getElem_cons_succ, List.getElem_cons_zero, List.setIfInBounds_toArray, List.set_cons_zero, List.set_cons_succ]
        exact OpStep.val (v := .bool true) (w' := w5) (by go_simp) (by kernel_rfl) (Below.refl _ _) rfl
      · refine StepAt.mk rfl [(31, 231)] (by kernel_rfl) (by kernel_rfl) (fun vals w5 hB hD => ?_)
        have d31 := hD (31, 231) (by simp)
        clear hD
        simp only [List.foldl_cons] at *
        simp only [List.foldl_nil]
        generalize vals 31 = x31 at *
        change x31 = .bool true at d31
        subst d31
        try simp only [Act.put, List.getElem_toArray, List.getElem_cons_succ, List.getElem_cons_zero, List.setIfInBounds_toArray, List.set_cons_zero, List.set_cons_succ]
        exact OpStep.val (v := .int .i64 0) (w' := w5) (by go_simp) (by kernel_rfl) (Below.refl _ _) rfl
      · refine StepAt.mk rfl [(31, 231), (32, 232)] (by kernel_rfl) (by kernel_rfl) (fun vals w5 hB hD => ?_)
        have d31 := hD (31, 231) (by simp)
        have d32 := hD (32, 232) (by simp)
        clear hD
        simp only [List.foldl_cons] at *
        simp only [List.foldl_nil]
        generalize vals 31 = x31 at *
        change x31 = .bool true at d31
        subst d31
        generalize vals 32 = x32 at *
        change x32 = .int .i64 0 at d32
        subst d32
        try simp only [Act.put, List.getElem_toArray, List.getElem_cons_succ, List.getElem_cons_zero, List.setIfInBounds_toArray, List.set_cons_zero, List.set_cons_succ]
        exact OpStep.val (v := .bool true) (w' := w5) (by go_simp) (by kernel_rfl) (Below.refl _ _) rfl
      · refine StepAt.mk rfl [(31, 231), (33, 233)] (by kernel_rfl) (by kernel_rfl) (fun vals w5 hB hD => ?_)
        have d31 := hD (31, 231) (by simp)
        have d33 := hD (33, 233) (by simp)
        clear hD
        simp only [List.foldl_cons] at *
        simp only [List.foldl_nil]
        generalize vals 31 = x31 at *
        change x31 = .bool true at d31
        subst d31
        generalize vals 33 = x33 at *
        change x33 = .bool true at d33
        subst d33
        try simp only [Act.put, List.getElem_toArray, List.getElem_cons_succ, List.getElem_cons_zero, List.setIfInBounds_toArray, List.set_cons_zero, List.set_cons_succ]
        exact OpStep.val (v := .bool true) (w' := w5) (by go_simp) (by kernel_rfl) (Below.refl _ _) rfl
      · refine StepAt.mk rfl [(34, 234)] (by kernel_rfl) (by kernel_rfl) (fun vals w5 hB hD => ?_)
        have d34 := hD (34, 234) (by simp)
        clear hD
        simp only [List.foldl_cons] at *
        simp only [List.foldl_nil]
        generalize vals 34 = x34 at *
        change x34 = .bool true at d34
        subst d34
        try simp only [Act.put, List.getElem_toArray, List.getElem_cons_succ, List.getElem_cons_zero, List.setIfInBounds_toArray, List.set_cons_zero, List.set_cons_succ]
        exact OpStep.val (v := .bool true) (w' := w5) (by go_simp) (by kernel_rfl) (Below.refl _ _) rfl
      · refine StepAt.mk rfl [(35, 235)] (by kernel_rfl) (by kernel_rfl) (fun vals w5 hB hD => ?_)
        have d35 := hD (35, 235) (by simp)
        clear hD
        simp only [List.foldl_cons] at *
        simp only [List.foldl_nil]
        generalize vals 35 = x35 at *
        change x35 = .bool true at d35
        subst d35
        try simp only [Act.put, List.getElem_toArray, List.getElem_cons_succ, List.getElem_cons_zero, List.setIfInBounds_toArray, List.set_cons_zero, List.set_cons_succ]
        exact OpStep.val (v := .pointer (some ⟨b27, 1, none⟩)) (w' := w5) (by go_simp) (by kernel_rfl) (Below.refl _ _) rfl
      · refine StepAt.mk rfl [(35, 235), (36, 236)] (by kernel_rfl) (by kernel_rfl) (fun vals w5 hB hD => ?_)
        have d35 := hD (35, 235) (by simp)
        have d36 := hD (36, 236) (by simp)
        clear hD
        simp only [List.foldl_cons] at *
        simp only [List.foldl_nil]
        generalize vals 35 = x35 at *
        change x35 = .bool true at d35
        subst d35
        generalize vals 36 = x36 at *
        change x36 = .pointer (some ⟨b27, 1, none⟩) at d36
        subst d36
        try simp only [Act.put, List.getElem_toArray, List.getElem_cons_succ, List.getElem_cons_zero, List.setIfInBounds_toArray, List.set_cons_zero, List.set_cons_succ]
        obtain ⟨c0, c1⟩ := (Hv27.out.blk.below hB Hv27.out.blk.lt).cells.c2
        simp only [Nat.zero_add] at c1
        exact OpStep.val (v := .slice p105 2 q106) (w' := w5) (by go_simp) (by kernel_rfl) (Below.refl _ _) rfl
      · refine StepAt.mk rfl [(35, 235), (37, 237)] (by kernel_rfl) (by kernel_rfl) (fun vals w5 hB hD => ?_)
        have d35 := hD (35, 235) (by simp)
        have d37 := hD (37, 237) (by simp)
        clear hD
        simp only [List.foldl_cons] at *
        simp only [List.foldl_nil]
        generalize vals 35 = x35 at *
        change x35 = .bool true at d35
        subst d35
        generalize vals 37 = x37 at *
        change x37 = .slice p105 2 q106 at d37
        subst d37
        try simp only [Act.put, List.getElem_toArray, List.getElem_cons_succ, List.getElem_cons_zero, List.setIfInBounds_toArray, List.set_cons_zero, List.set_cons_succ]
        exact OpStep.val (v := .int .i64 2) (w' := w5) (by go_simp) (by kernel_rfl) (Below.refl _ _) rfl
      · refine StepAt.mk rfl [(35, 235), (38, 238)] (by kernel_rfl) (by kernel_rfl) (fun vals w5 hB hD => ?_)
        have d35 := hD (35, 235) (by simp)
        have d38 := hD (38, 238) (by simp)
        clear hD
        simp only [List.foldl_cons] at *
        simp only [List.foldl_nil]
        generalize vals 35 = x35 at *
        change x35 = .bool true at d35
        subst d35
        generalize vals 38 = x38 at *
        change x38 = .int .i64 2 at d38
        subst d38
        try simp only [Act.put, List.getElem_toArray, List.getElem_cons_succ, List.getElem_cons_zero, List.setIfInBounds_toArray, List.set_cons_zero, List.set_cons_succ]
        exact OpStep.val (v := .bool true) (w' := w5) (by go_simp) (by kernel_rfl) (Below.refl _ _) rfl
      · refine StepAt.mk rfl [(35, 235), (39, 239)] (by kernel_rfl) (by kernel_rfl) (fun vals w5 hB hD => ?_)
        have d35 := hD (35, 235) (by simp)
        have d39 := hD (39, 239) (by simp)
        clear hD
        simp only [List.foldl_cons] at *
        simp only [List.foldl_nil]
        generalize vals 35 = x35 at *
        change x35 = .bool true at d35
        subst d35
        generalize vals 39 = x39 at *
        change x39 = .bool true at d39
        subst d39
        try simp only [Act.put, List.getElem_toArray, List.getElem_cons_succ, List.getElem_cons_zero, List.setIfInBounds_toArray, List.set_cons_zero, List.set_cons_succ]
        exact OpStep.val (v := .bool true) (w' := w5) (by go_simp) (by kernel_rfl) (Below.refl _ _) rfl
      · refine StepAt.mk rfl [(40, 240)] (by kernel_rfl) (by kernel_rfl) (fun vals w5 hB hD => ?_)
        have d40 := hD (40, 240) (by simp)
        clear hD
        simp only [List.foldl_cons] at *
        simp only [List.foldl_nil]
        generalize vals 40 = x40 at *
        change x40 = .bool true at d40
        subst d40
        try simp only [Act.put, List.getElem_toArray, List.getElem_cons_succ, List.getElem_cons_zero, List.setIfInBounds_toArray, List.set_cons_zero, List.set_cons_succ]
        exact OpStep.val (v := .bool true) (w' := w5) (by go_simp) (by kernel_rfl) (Below.refl _ _) rfl
      simp only [List.foldl_cons, List.foldl_nil]
      try simp only [Act.put, List.getElem_toArray, List.getElem_cons_succ, List.getElem_cons_zero, List.setIfInBounds_toArray, List.set_cons_zero, List.set_cons_succ]
      have z : vals 41 = .bool true := hV 41 (by decide)
      rw [z]
      clear z hV
      replace HB := Lib.hid (HB.out.trans (hB.mono HB.out.size))
      replace Hv27 := Lib.hid (Hv27.out.below hB)
      replace Hrel0 := Lib.hid (Hrel0.out.below hB)
      replace Hat0 := Lib.hid (AtC.below Hat0.out hB)
      clear hB
      clear Hrel0 Hat0 Hv27
      go_wp2_with fail
      refine alive16_P wz _ (fun wc109 hB => ?_)
      have hr := HR.out wc109 (HB.out.trans (hB.mono HB.out.size))
      clear hB
      go_wp2_with fail
      first | exact hr | exact fin hr rfl
end Go.Proofs.Ytpncblagjkbemaa
end

/- FoldNames holds outright: the call returns true. It takes no argument, and there is no condition. -/
section
set_option linter.unusedVariables false
set_option linter.unusedSimpArgs false
namespace Go.Proofs.Ytpncblagjkbemaa.foldNames
open Go.ChangeShapes Go.WideShapes Go.ChangeAt Go.RowKit
open Go.ChangeMaps (open_string shut_string)
set_option linter.unusedVariables false

set_option maxRecDepth 100000 in
theorem contract (H : Type) (enc : TypeId × Value → H) (W : World) (base : Nat) (args : Array Value) (ds gs : List (DataW H)) (before : List MemPlace)
    (hval : ∀ (j : Nat) t v, Try.f4.params[j]? = some t → args[j]? = some v → Value.okWide Try.prog W .any base t v)
    (hW : DataW.Whole enc Try.prog Try.f4.params.toList Rows.foldNamesSpec.vars false W args.toList ds gs before) :
    Calls Try.prog 4 args W fun e W' => ∃ v, e = .returned v ∧ Rows.foldNamesSpec.post enc Try.prog Try.f4 false true false false W args v W' := by
  have hW' := hW
  obtain ⟨p, q, hA0, hV, rfl, hfz, hnd⟩ := hW
  have hA : DataW.TrodAll enc Try.prog W 0 (fun _ => true) true Try.f4.params.toList args.toList ds p := hA0
  rw [Try.params4] at hA hval
  have hAk := hA
  obtain ⟨hargs, rfl, rfl⟩ := trodAll_nil hA
  obtain rfl : args = #[] := by cases args; simp_all
  obtain ⟨rfl, rfl⟩ := trodVars_none hV
  clear hA0
  refine FoldNames_any W _ fun W' bel => ?_
  exact ⟨_, rfl, _, _, _, [], _, [], hW', trodAll_mk1 (shut_bool Try.underlying4 _), trodAll_below laidOut bel _ _ _ _ (by kernel_rfl) hAk, rfl, bel.frame _, fun h => by cases h⟩

set_option maxRecDepth 100000 in
theorem lifted (os : Os) (started : os.Started) (H : Type) (enc : TypeId × Value → H) :
    ReturnsInHanded {} Try.checked os 4 .any (Rows.foldNamesSpec.pre6 enc Try.prog Try.f4 Rows.foldNamesRow.domain false) (Rows.foldNamesSpec.post enc Try.prog Try.f4 false true false false) := by
  refine returnsInHanded_of_change (C := Try.checked) own started (by kernel_rfl) Try.func4
    (ChangeSpec.witness6 (enc := enc) (C := Try.checked) false ⟨#[], #[], []⟩ 8 (by kernel_rfl) (by kernel_rfl) (by kernel_rfl) (by kernel_rfl)) ?_
  intro W base args ds gs before hval hW _ _
  exact contract H enc W base args ds gs before hval hW

theorem over : Rows.foldNamesRow.holds Try.pinned (OpenSpec.ofChange Rows.foldNamesSpec) :=
  OpenClaim.holds_of_wide 4 Try.f4 rfl rfl rfl rfl rfl rfl rfl ⟨rfl, rfl, rfl, rfl, rfl⟩ rfl rfl rfl rfl rfl (by kernel_rfl) Try.func4 (by kernel_rfl)
    (of_decide_eq_true (by kernel_rfl)) (by unfold Func.isWrapper; first | (rw [if_pos (by decide +kernel)]; kernel_rfl) | (rw [if_neg (by decide +kernel)]; exact ⟨rfl, rfl⟩))
    (fun os started H enc _ => lifted os started H enc)

theorem proved : Rows.FoldNamesSaid := over
end Go.Proofs.Ytpncblagjkbemaa.foldNames
end
