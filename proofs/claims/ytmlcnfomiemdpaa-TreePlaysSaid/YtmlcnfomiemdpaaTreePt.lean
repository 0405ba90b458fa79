/- The walk of TreeParts. (Printed by treept.py.) -/
import Derived.Test.YtmlcnfomiemdpaaTreeAl
import Derived.Laws.Cover1
namespace Go.Proofs.Ytmlcnfomiemdpaa
open Go.RowKit
attribute [local go_sem ↓] Go.wp_at_zero Go.wp_at_succ
set_option linter.unusedVariables false
set_option linter.unusedSimpArgs false

theorem less_cmp : ∀ (a b : List UInt8), Op.bytesLess a b = decide (cmpB a b < 0)
  | _, [] => by rename_i a; cases a <;> simp [Op.bytesLess, cmpB, Lib.compareBytes]
  | [], _ :: _ => by simp [Op.bytesLess, cmpB, Lib.compareBytes]
  | a :: x, b :: y => by
    have ih := less_cmp x y
    simp only [Op.bytesLess, ih, cmpB, Lib.compareBytes]
    by_cases h1 : a < b
    · simp [h1]
    · by_cases h2 : b < a
      · have hne : ¬ a = b := fun e => by rw [e] at h2; exact absurd h2 (UInt8.lt_irrefl b)
        simp [h1, h2, hne]
      · have he : a = b := UInt8.le_antisymm (UInt8.not_lt.1 h2) (UInt8.not_lt.1 h1)
        subst he
        simp [UInt8.lt_irrefl]
theorem Pairs.below {lo : Nat} {w w' : World} {v : Value} {ps : List (Value × Value)} {d : PL} (h : Pairs lo w v ps d) (hB : Below w.heap.size w w') : Pairs lo w' v ps d :=
  h.same (fun g e => hB.block g (h.lt.1 g e).2) (fun g e => hB.block g (h.lt.2 g e).2)
theorem Pairs.form {lo : Nat} {w : World} {v : Value} {ps : List (Value × Value)} {d : PL} (h : Pairs lo w v ps d) : ∃ p c, v = .slice p d.length c := by
  obtain ⟨p, c, e⟩ := h.own.slice
  exact ⟨p, c, by rw [e, h.len]⟩
/-- A pair of a slice of pairs. -/
theorem Pairs.at {lo : Nat} {w : World} {p : Option Addr} {n c : Nat} {ps : List (Value × Value)} {d : PL} (h : Pairs lo w (.slice p n c) ps d) (i : Nat) (hi : i < d.length) : ∃ g a1 c1 a2 c2, p = some ⟨g, 0, none⟩ ∧ g < w.heap.size ∧
    w.cell? ⟨g, i * 2, none⟩ = some (.slice a1 d[i].1.length c1) ∧ w.cell? ⟨g, i * 2 + 1, none⟩ = some (.slice a2 d[i].2.length c2) ∧ Bytes lo w.heap.size w (.slice a1 d[i].1.length c1) d[i].1 ∧ Bytes lo w.heap.size w (.slice a2 d[i].2.length c2) d[i].2 := by
  have hip : i < ps.length := by rw [h.len]; exact hi
  obtain ⟨g, cap, e, h1, h2, h3, h4, h5, -⟩ := h.own.form (fun e => by rw [e] at hip; exact absurd hip (Nat.not_lt_zero _))
  injection e with e1 e2 e3
  subst e1 e2 e3
  have hkv := h.kv i hip hi
  have hb1 := OwnB.bytes hkv.1
  have hb2 := OwnB.bytes hkv.2
  obtain ⟨a1, c1, q1, -, -, -⟩ := hb1.form
  obtain ⟨a2, c2, q2, -, -, -⟩ := hb2.form
  have hfl : ∀ (l : List (Value × Value)) (i : Nat) (hl : i < l.length), (l.flatMap pE)[i * 2]? = some l[i].1 ∧ (l.flatMap pE)[i * 2 + 1]? = some l[i].2 := by
    intro l
    induction l with
    | nil => intro i hl; exact absurd hl (Nat.not_lt_zero _)
    | cons x r ih =>
      intro i hl
      cases i with
      | zero => simp [pE]
      | succ j =>
        have := ih j (by simp at hl; omega)
        simp only [List.flatMap_cons, pE, List.getElem_cons_succ]
        rw [show (j + 1) * 2 = j * 2 + 1 + 1 by omega, show j * 2 + 1 + 1 + 1 = (j * 2 + 1) + 1 + 1 by omega]
        simpa using this
  have hc := hfl ps i hip
  have g1 := h5 _ _ hc.1
  have g2 := h5 _ _ hc.2
  rw [Nat.zero_add] at g1 g2
  rw [q1] at g1 hb1
  rw [q2] at g2 hb2
  exact ⟨g, a1, c1, a2, c2, rfl, h2, g1, g2, hb1, hb2⟩

theorem Seek_u (lo klo khi : Nat) (t : T) (k : List UInt8) (p kv : Value) (w : World) (hlo : lo ≤ w.heap.size) (ht : Tr Nn lo w t p) (hk : Bytes klo khi w kv k) (hkhi : khi ≤ w.heap.size) (hm : t.many ≤ 1000000) (hlen : ∀ x ∈ t.toL, x.1.length ≤ 100000000 ∧ x.2.length ≤ 100000000) (hr : Rises t.toL)
    (R : Ending → World → Prop) (hR : ∀ w' (is : Bool) (x : List UInt8 × List UInt8) a1 c1 a2 c2, Below w.heap.size w w' → Bytes w.heap.size w'.heap.size w' (.slice a1 x.1.length c1) x.1 → Bytes w.heap.size w'.heap.size w' (.slice a2 x.2.length c2) x.2 →
      (is = true ∧ (highL k t.toL)[0]? = some x ∨ is = false ∧ highL k t.toL = []) → R (.returned (.tuple #[.agg #[.slice a1 x.1.length c1, .slice a2 x.2.length c2], .bool is])) w') : Calls Try.prog 17 #[p, kv] w R := by
  have hsum : (lowL k t.toL).length + (highL k t.toL).length = t.many := by rw [← List.length_append, low_high k t.toL hr, T.many_toL]
  have hrank := t.rank_eq k hr
  refine Seek_any Nn lo klo khi t k p kv w (Nn.lt _) hlo ht hk hkhi hm hlen R (fun hno w' hB => ?_) (fun n en hn w' k2 v2 hB ho1 ho2 _ => ?_)
  · exact hR w' false ([], []) none 0 none 0 hB (Sl.nil _ _ _ _ _) (Sl.nil _ _ _ _ _) (.inr ⟨rfl, List.eq_nil_of_length_eq_zero (by omega)⟩)
  · obtain ⟨a1, c1, rfl, -, -, -⟩ := (OwnB.bytes ho1).form
    obtain ⟨a2, c2, rfl, -, -, -⟩ := (OwnB.bytes ho2).form
    refine hR w' true (t.at n) a1 c1 a2 c2 hB (OwnB.bytes ho1) (OwnB.bytes ho2) (.inl ⟨rfl, ?_⟩)
    have h1 := t.at_eq n hn
    rw [← low_high k t.toL hr, List.getElem?_append_right (by omega)] at h1
    rw [← h1]
    congr 1
    omega
theorem Back_u (lo klo khi : Nat) (t : T) (k : List UInt8) (p kv : Value) (w : World) (hlo : lo ≤ w.heap.size) (ht : Tr Nn lo w t p) (hk : Bytes klo khi w kv k) (hkhi : khi ≤ w.heap.size) (hm : t.many ≤ 1000000) (hlen : ∀ x ∈ t.toL, x.1.length ≤ 100000000 ∧ x.2.length ≤ 100000000) (hr : Rises t.toL)
    (R : Ending → World → Prop) (hR : ∀ w' (is : Bool) (x : List UInt8 × List UInt8) a1 c1 a2 c2, Below w.heap.size w w' → Bytes w.heap.size w'.heap.size w' (.slice a1 x.1.length c1) x.1 → Bytes w.heap.size w'.heap.size w' (.slice a2 x.2.length c2) x.2 →
      (is = true ∧ 0 < (lowL k t.toL).length ∧ (lowL k t.toL)[(lowL k t.toL).length - 1]? = some x ∨ is = false ∧ lowL k t.toL = []) → R (.returned (.tuple #[.agg #[.slice a1 x.1.length c1, .slice a2 x.2.length c2], .bool is])) w') : Calls Try.prog 18 #[p, kv] w R := by
  have hsum : (lowL k t.toL).length + (highL k t.toL).length = t.many := by rw [← List.length_append, low_high k t.toL hr, T.many_toL]
  have hrank := t.rank_eq k hr
  refine Back_any Nn lo klo khi t k p kv w (Nn.lt _) hlo ht hk hkhi hm hlen R (fun hno w' hB => ?_) (fun n en hn w' k2 v2 hB ho1 ho2 _ => ?_)
  · exact hR w' false ([], []) none 0 none 0 hB (Sl.nil _ _ _ _ _) (Sl.nil _ _ _ _ _) (.inr ⟨rfl, List.eq_nil_of_length_eq_zero (by omega)⟩)
  · obtain ⟨a1, c1, rfl, -, -, -⟩ := (OwnB.bytes ho1).form
    obtain ⟨a2, c2, rfl, -, -, -⟩ := (OwnB.bytes ho2).form
    refine hR w' true (t.at n) a1 c1 a2 c2 hB (OwnB.bytes ho1) (OwnB.bytes ho2) (.inl ⟨rfl, by omega, ?_⟩)
    have h1 := t.at_eq n hn
    rw [← low_high k t.toL hr, List.getElem?_append_left (by omega)] at h1
    rw [← h1]
    congr 1
    omega

set_option maxRecDepth 100000 in
set_option maxHeartbeats 8000000 in
theorem TreeParts_any (lo hi : Nat) (l : List OpV) (v kv : Value) (key : List UInt8) (w : World) (hv : Sl opE 6 lo hi w v l) (hk : Bytes lo hi w kv key) (hhi : hi ≤ w.heap.size)
    (R : Ending → World → Prop) (hR : ∀ w', Below w.heap.size w w' → R (.returned (.bool true)) w') : Calls Try.prog 4 #[v, kv] w R := by
  have HR := Lib.hid hR
  have Hv := Lib.hid hv
  have Hk := Lib.hid hk
  obtain ⟨ao, cap, rfl, -, -, -, -⟩ := hv.form
  obtain ⟨ak, ck, rfl, -, -, -, -⟩ := hk.form
  clear hv hk hR
  go_enter Try.func4, Try.ntmps4
  go_wp2_with fail
  refine alive_any w _ (fun w1 hB1 => ?_)
  have HB1 := Lib.hid hB1
  have Hv1 := Lib.hid (Sl.below Hv.out opE_loc hB1 hhi)
  have Hk1 := Lib.hid (Sl.below Hk.out (flat_loc _) hB1 hhi)
  have hs1 := hB1.size
  have hr1 := HR.out w1 hB1
  have hhi1 : hi ≤ w1.heap.size := Nat.le_trans hhi hs1
  clear hB1 Hv Hk
  go_wp2_with fail
  refine great_any lo hi l _ w1 Hv1.out _ ?_
  by_cases hgr : (decide (100 < l.length) || l.any OpV.great) = true
  · rw [hgr]
    go_wp2_with fail
    all_goals first | exact hr1 | exact fin hr1 rfl
  rw [Bool.not_eq_true] at hgr
  rw [hgr]
  have hll : l.length ≤ 100 := by
    simp only [Bool.or_eq_false_iff, decide_eq_false_iff_not] at hgr; omega
  clear hgr
  by_cases hk1 : key.length < 1
  · go_wp2_with fail
    all_goals first | exact hr1 | exact fin hr1 rfl
  by_cases hk2 : 5000 < key.length
  · go_wp2_with fail
    all_goals first | exact hr1 | exact fin hr1 rfl
  clear hr1
  go_wp2_with fail
  refine grown_any lo hi l _ w1 Hv1.out hhi1 hll _ (fun w2 p2 t hB2 ht2 hg2 => ?_)
  obtain ⟨q2, rfl⟩ := ht2.ptr2
  have hs2 := hB2.size
  have hmany : t.many ≤ 100 := Nat.le_trans hg2.many hll
  have hkne : key ≠ [] := fun e => by rw [e] at hk1; exact hk1 (by decide)
  have hlr : rangeL key 1000 (t.from []) = lowL key t.toL := by
    rw [T.from_eq [] t hg2.rises, high_nil, rangeL_low key hkne 1000 t.toL hg2.rises (by rw [T.many_toL]; omega)]
  have hhr : rangeL [] 1000 (t.from key) = highL key t.toL := by
    have := t.from_len key
    rw [rangeL_all 1000 (t.from key) (by omega), T.from_eq key t hg2.rises]
  have hsum : (lowL key t.toL).length + (highL key t.toL).length = t.many := by rw [← List.length_append, low_high key t.toL hg2.rises, T.many_toL]
  have hrank := t.rank_eq key hg2.rises
  have hlh := low_high key t.toL hg2.rises
  have HB2 := Lib.hid (HB1.out.trans (hB2.mono hs1))
  have Hk2 := Lib.hid (Sl.below Hk1.out (flat_loc _) hB2 hhi1)
  have Ht2 := Lib.hid ht2
  have Hg2 := Lib.hid hg2
  have Hsum := Lib.hid hsum
  have Hrank := Lib.hid hrank
  have Hlh := Lib.hid hlh
  have Hlr := Lib.hid hlr
  have Hhr := Lib.hid hhr
  have hm6 : t.many ≤ 1000000 := by omega
  have hhi2 : hi ≤ w2.heap.size := Nat.le_trans hhi1 hs2
  clear hB2 ht2 hg2 hsum hrank hlh hlr hhr hkne
  go_wp2_with fail
  refine Range_any Nn w1.heap.size 0 0 lo hi t [] key (.pointer q2) (.slice none 0 0) _ 1000 w2 (Nn.lt _) hs2 Ht2.out (Sl.nil _ _ _ _ _) (Nat.zero_le _) Hk2.out hhi2 hm6 Hg2.out.len8 _ (fun w3 vl psl hB3 hPl => ?_)
  rw [Hlr.out] at hPl
  obtain ⟨pl, cl, rfl⟩ := hPl.form
  have hs3 := hB3.size
  have HPl := Lib.hid hPl
  have Ht3 := Lib.hid (Ht2.out.step (Nn.lt _) hs2 hB3)
  have Hk3 := Lib.hid (Sl.below Hk2.out (flat_loc _) hB3 hhi2)
  have HB3 := Lib.hid (HB2.out.trans (hB3.mono HB2.out.size))
  have hhi3 : hi ≤ w3.heap.size := Nat.le_trans hhi2 hs3
  have hs13 : w1.heap.size ≤ w3.heap.size := Nat.le_trans hs2 hs3
  clear hPl hB3
  go_wp2_with fail
  refine Range_any Nn w1.heap.size lo hi 0 0 t key [] (.pointer q2) _ (.slice none 0 0) 1000 w3 (Nn.lt _) hs13 Ht3.out Hk3.out hhi3 (Sl.nil _ _ _ _ _) (Nat.zero_le _) hm6 Hg2.out.len8 _ (fun w4 vh psh hB4 hPh => ?_)
  rw [Hhr.out] at hPh
  obtain ⟨ph, ch, rfl⟩ := hPh.form
  have hs4 := hB4.size
  have HPh := Lib.hid hPh
  have HPl4 := Lib.hid (HPl.out.below hB4)
  have Ht4 := Lib.hid (Ht3.out.step (Nn.lt _) hs13 hB4)
  have Hk4 := Lib.hid (Sl.below Hk3.out (flat_loc _) hB4 hhi3)
  have HB4 := Lib.hid (HB3.out.trans (hB4.mono HB3.out.size))
  have hhi4 : hi ≤ w4.heap.size := Nat.le_trans hhi3 hs4
  have hs14 : w1.heap.size ≤ w4.heap.size := Nat.le_trans hs13 hs4
  obtain ⟨low, elow⟩ : ∃ x, x = lowL key t.toL := ⟨_, rfl⟩
  obtain ⟨high, ehigh⟩ : ∃ x, x = highL key t.toL := ⟨_, rfl⟩
  rw [← elow] at HPl4 Hsum Hrank Hlh ⊢
  rw [← ehigh] at HPh Hsum Hlh ⊢
  have Hel := Lib.hid elow
  have Heh := Lib.hid ehigh
  clear hPh hB4 HPl Hlr Hhr Ht2 Ht3 Hk2 Hk3 HB2 HB3 elow ehigh
  go_wp2_with fail
  refine Rank_any Nn w1.heap.size lo hi t key (.pointer q2) _ w4 Ht4.out Hk4.out hm6 _ ?_
  rw [Hrank.out]
  have w1a : IntKind.i64.wrap ((low.length : Int) + (high.length : Int)) = (t.many : Int) := by
    have := Hsum.out
    rw [show (low.length : Int) + (high.length : Int) = (t.many : Int) by omega]
    exact wrap_ok (by omega) (by omega)
  go_wp2_with fail
  refine Len_any Nn w1.heap.size t (.pointer q2) w4 Ht4.out _ ?_
  go_wp2_with fail
  refine Seek_u w1.heap.size lo hi t key (.pointer q2) _ w4 hs14 Ht4.out Hk4.out hhi4 hm6 Hg2.out.len8 Hg2.out.rises _ (fun w5 is sx a1 c1 a2 c2 hB5 hb1 hb2 hcs => ?_)
  rw [← Heh.out] at hcs
  have hs5 := hB5.size
  have hBX : Below w5.heap.size w5 (w5.alloc (.cells #[.slice a1 sx.1.length c1, .slice a2 sx.2.length c2] 43)) := (Below.refl _ _).alloc (Nat.le_refl _) _
  have hsX : (w5.alloc (.cells #[.slice a1 sx.1.length c1, .slice a2 sx.2.length c2] 43)).heap.size = w5.heap.size + 1 := by simp
  have hB46 := hB5.trans (hBX.mono hs5)
  have Ht6 := Lib.hid (Ht4.out.step (Nn.lt _) hs14 hB46)
  have Hk6 := Lib.hid (Sl.below Hk4.out (flat_loc _) hB46 hhi4)
  have HPl6 := Lib.hid (HPl4.out.below hB46)
  have HPh6 := Lib.hid (HPh.out.below hB46)
  have HB6 := Lib.hid (HB4.out.trans (hB46.mono HB4.out.size))
  have Hx1 := Lib.hid (Sl.mono (hb1.below (flat_loc _) hBX (Nat.le_refl _)) (flat_loc _) (Nat.zero_le _) hBX.size)
  have Hx2 := Lib.hid (Sl.mono (hb2.below (flat_loc _) hBX (Nat.le_refl _)) (flat_loc _) (Nat.zero_le _) hBX.size)
  have Hbs := Lib.hid (Blk.new w5 [.slice a1 sx.1.length c1, .slice a2 sx.2.length c2] 43 rfl)
  have Hcs := Lib.hid hcs
  have HsX := Lib.hid hsX
  have hs16 : w1.heap.size ≤ (w5.alloc (.cells #[.slice a1 sx.1.length c1, .slice a2 sx.2.length c2] 43)).heap.size := Nat.le_trans hs14 hB46.size
  have hhi6 : hi ≤ (w5.alloc (.cells #[.slice a1 sx.1.length c1, .slice a2 sx.2.length c2] 43)).heap.size := Nat.le_trans hhi4 hB46.size
  clear hB5 hb1 hb2 hcs hsX hBX hB46 Ht4 Hk4 HPl4 HPh HB4
  go_wp2_with fail
  generalize w5.alloc (.cells #[.slice a1 sx.1.length c1, .slice a2 sx.2.length c2] 43) = w6 at *
  refine Back_u w1.heap.size lo hi t key (.pointer q2) _ w6 hs16 Ht6.out Hk6.out hhi6 hm6 Hg2.out.len8 Hg2.out.rises _ (fun w7 was sy a3 c3 a4 c4 hB7 hb3 hb4 hcb => ?_)
  rw [← Hel.out] at hcb
  have hs7 := hB7.size
  have hBX : Below w7.heap.size w7 (w7.alloc (.cells #[.slice a3 sy.1.length c3, .slice a4 sy.2.length c4] 43)) := (Below.refl _ _).alloc (Nat.le_refl _) _
  have hB68 := hB7.trans (hBX.mono hs7)
  have Hk8 := Lib.hid (Sl.below Hk6.out (flat_loc _) hB68 hhi6)
  have HPl8 := Lib.hid (HPl6.out.below hB68)
  have HPh8 := Lib.hid (HPh6.out.below hB68)
  have HB8 := Lib.hid (HB6.out.trans (hB68.mono HB6.out.size))
  have Hx18 := Lib.hid (Sl.mono (Sl.below Hx1.out (flat_loc _) hB68 (Nat.le_refl _)) (flat_loc _) (Nat.zero_le _) hB68.size)
  have Hx28 := Lib.hid (Sl.mono (Sl.below Hx2.out (flat_loc _) hB68 (Nat.le_refl _)) (flat_loc _) (Nat.zero_le _) hB68.size)
  have Hy1 := Lib.hid (Sl.mono (hb3.below (flat_loc _) hBX (Nat.le_refl _)) (flat_loc _) (Nat.zero_le _) hBX.size)
  have Hy2 := Lib.hid (Sl.mono (hb4.below (flat_loc _) hBX (Nat.le_refl _)) (flat_loc _) (Nat.zero_le _) hBX.size)
  have Hbs8 := Lib.hid (Hbs.out.below hB68 Hbs.out.lt)
  have Hby := Lib.hid (Blk.new w7 [.slice a3 sy.1.length c3, .slice a4 sy.2.length c4] 43 rfl)
  have Hcb := Lib.hid hcb
  have hhi8 : hi ≤ (w7.alloc (.cells #[.slice a3 sy.1.length c3, .slice a4 sy.2.length c4] 43)).heap.size := Nat.le_trans hhi6 hB68.size
  have hs58 : w5.heap.size < (w7.alloc (.cells #[.slice a3 sy.1.length c3, .slice a4 sy.2.length c4] 43)).heap.size := Nat.lt_of_lt_of_le Hbs.out.lt hB68.size
  have hs78 : w7.heap.size < (w7.alloc (.cells #[.slice a3 sy.1.length c3, .slice a4 sy.2.length c4] 43)).heap.size := by simp
  clear hB7 hb3 hb4 hcb hBX hB68 Ht6 Hk6 HPl6 HPh6 HB6 Hx1 Hx2 Hbs
  rcases Hcs.out with ⟨rfl, hH⟩ | ⟨rfl, hH⟩
  · rcases Hcb.out with ⟨rfl, hL0, hL⟩ | ⟨rfl, hL⟩
    · have hcmp1 : Op.bytesLess sx.1 key = false := by
        have hm : sx ∈ highL key t.toL := by rw [← Heh.out]; exact List.mem_of_getElem? hH
        have := of_decide_eq_true (List.mem_filter.1 hm).2
        rw [less_cmp]; exact decide_eq_false this
      have hh0 : 0 < high.length := (List.getElem?_eq_some_iff.1 hH).1
      have Hh := Lib.hid hH
      clear hH
      have hcmp2 : Op.bytesLess sy.1 key = true := by
        have hm : sy ∈ lowL key t.toL := by rw [← Hel.out]; exact List.mem_of_getElem? hL
        have := of_decide_eq_true (List.mem_filter.1 hm).2
        rw [less_cmp]; exact decide_eq_true this
      have Hl := Lib.hid hL
      clear hL
      go_wp2_with fail
      generalize w7.alloc (.cells #[.slice a3 sy.1.length c3, .slice a4 sy.2.length c4] 43) = w8 at *
      obtain ⟨s0, s1⟩ := Hbs8.out.cells.c2
      obtain ⟨y0, y1⟩ := Hby.out.cells.c2
      obtain ⟨gh, b1, d1, b2, d2, rfl, hgh, g0, g1, hg0, hg1⟩ := HPh8.out.at 0 hh0
      have hx : high[0] = sx := Option.some.inj ((List.getElem?_eq_getElem hh0).symm.trans Hh.out)
      rw [hx] at g0 g1 hg0 hg1
      rw [Nat.zero_mul] at g0 g1
      have Hg0 := Lib.hid (Sl.mono hg0 (flat_loc _) (Nat.zero_le _) (Nat.le_refl _))
      have Hg1 := Lib.hid (Sl.mono hg1 (flat_loc _) (Nat.zero_le _) (Nat.le_refl _))
      clear hg0 hg1 hx
      obtain ⟨gl, b3, d3, b4, d4, rfl, hgl, l0, l1, hl0', hl1'⟩ := HPl8.out.at (low.length - 1) (by omega)
      have hy : low[low.length - 1]'(by omega) = sy := Option.some.inj ((List.getElem?_eq_getElem (by omega)).symm.trans Hl.out)
      rw [hy] at l0 l1 hl0' hl1'
      have Hl0 := Lib.hid (Sl.mono hl0' (flat_loc _) (Nat.zero_le _) (Nat.le_refl _))
      have Hl1 := Lib.hid (Sl.mono hl1' (flat_loc _) (Nat.zero_le _) (Nat.le_refl _))
      obtain ⟨nl, enl⟩ : ∃ nl, low.length = nl + 1 := ⟨low.length - 1, by omega⟩
      rw [enl, Nat.add_sub_cancel] at l0 l1
      have hnl : nl ≤ 1000000 := by have := Hsum.out; omega
      have hle : low.length = nl + 1 := enl
      clear hl0' hl1' hy enl
      have hcv : ∀ w', Below w8.heap.size w8 w' → (convert 30 9 (.slice a1 sx.1.length c1)).run Try.prog w' = .ok (.string ⟨sx.1.toArray⟩) w' ∧ (convert 30 9 (.slice a2 sx.2.length c2)).run Try.prog w' = .ok (.string ⟨sx.2.toArray⟩) w' ∧ (convert 30 9 (.slice a3 sy.1.length c3)).run Try.prog w' = .ok (.string ⟨sy.1.toArray⟩) w' ∧ (convert 30 9 (.slice a4 sy.2.length c4)).run Try.prog w' = .ok (.string ⟨sy.2.toArray⟩) w' ∧ (convert 30 9 (.slice ak key.length ck)).run Try.prog w' = .ok (.string ⟨key.toArray⟩) w' := fun w' h =>
        ⟨str (Sl.below Hx18.out (flat_loc _) h (Nat.le_refl _)), str (Sl.below Hx28.out (flat_loc _) h (Nat.le_refl _)), str (Sl.below Hy1.out (flat_loc _) h (Nat.le_refl _)), str (Sl.below Hy2.out (flat_loc _) h (Nat.le_refl _)), str (Sl.below Hk8.out (flat_loc _) h hhi8)⟩
      have hce : ∀ w', Below w8.heap.size w8 w' → w'.cell? ⟨w5.heap.size, 0, none⟩ = some (.slice a1 sx.1.length c1) ∧ w'.cell? ⟨w5.heap.size, 1, none⟩ = some (.slice a2 sx.2.length c2) ∧ w'.cell? ⟨w7.heap.size, 0, none⟩ = some (.slice a3 sy.1.length c3) ∧ w'.cell? ⟨w7.heap.size, 1, none⟩ = some (.slice a4 sy.2.length c4) := fun w' h =>
        ⟨(World.cell?_of_block (h.block _ hs58)).trans s0, (World.cell?_of_block (h.block _ hs58)).trans s1, (World.cell?_of_block (h.block _ hs78)).trans y0, (World.cell?_of_block (h.block _ hs78)).trans y1⟩
      have hcg : ∀ w', Below w8.heap.size w8 w' → w'.cell? ⟨gh, 0, none⟩ = some (.slice b1 sx.1.length d1) ∧ w'.cell? ⟨gh, 0 + 1, none⟩ = some (.slice b2 sx.2.length d2) := fun w' h => ⟨(World.cell?_of_block (h.block _ hgh)).trans g0, (World.cell?_of_block (h.block _ hgh)).trans g1⟩
      clear g0 g1
      have hcl : ∀ w', Below w8.heap.size w8 w' → w'.cell? ⟨gl, nl * 2, none⟩ = some (.slice b3 sy.1.length d3) ∧ w'.cell? ⟨gl, nl * 2 + 1, none⟩ = some (.slice b4 sy.2.length d4) := fun w' h => ⟨(World.cell?_of_block (h.block _ hgl)).trans l0, (World.cell?_of_block (h.block _ hgl)).trans l1⟩
      clear l0 l1
      clear s0 s1 y0 y1
      have hd8 : Below w8.heap.size w8 w8.drew := Below.drew (Below.refl _ _)
      refine wp_region_held_drew (S := fun w' => Below w8.heap.size w8 w') (by kernel_rfl) hd8 (fun hHeld => ?_)
      refine wpAnyH_take (i := 0) (v := .bool true) rfl (by kernel_rfl) (by kernel_rfl) (by kernel_rfl) (fun _ _ _ h => h) (Or.inl ⟨by rfl, ?_⟩) hHeld ?_
      · intro w' hSw; go_simp
      try simp only [Act.put, List.getElem_toArray, List.getElem_cons_succ, List.getElem_cons_zero, List.setIfInBounds_toArray, List.set_cons_zero, List.set_cons_succ]
      refine wpAnyH_take (i := 1) (v := .bool true) rfl (by kernel_rfl) (by kernel_rfl) (by kernel_rfl) (fun _ _ _ h => h) (Or.inl ⟨by rfl, ?_⟩) hHeld ?_
      · intro w' hSw; go_simp
      try simp only [Act.put, List.getElem_toArray, List.getElem_cons_succ, List.getElem_cons_zero, List.setIfInBounds_toArray, List.set_cons_zero, List.set_cons_succ]
      refine wpAnyH_take (i := 2) (v := .slice (some ⟨gh, 0, none⟩) high.length ch) rfl (by kernel_rfl) (by kernel_rfl) (by kernel_rfl) (fun _ _ _ h => h) (Or.inl ⟨by rfl, ?_⟩) hHeld ?_
      · intro w' hSw; go_simp
      try simp only [Act.put, List.getElem_toArray, List.getElem_cons_succ, List.getElem_cons_zero, List.setIfInBounds_toArray, List.set_cons_zero, List.set_cons_succ]
      refine wpAnyH_take (i := 3) (v := .pointer (some ⟨gh, 0, none⟩)) rfl (by kernel_rfl) (by kernel_rfl) (by kernel_rfl) (fun _ _ _ h => h) (Or.inl ⟨by rfl, ?_⟩) hHeld ?_
      · intro w' hSw; go_simp
      try simp only [Act.put, List.getElem_toArray, List.getElem_cons_succ, List.getElem_cons_zero, List.setIfInBounds_toArray, List.set_cons_zero, List.set_cons_succ]
      refine wpAnyH_take (i := 4) (v := .agg #[.slice b1 sx.1.length d1, .slice b2 sx.2.length d2]) rfl (by kernel_rfl) (by kernel_rfl) (by kernel_rfl) (fun _ _ _ h => h) (Or.inl ⟨by rfl, ?_⟩) hHeld ?_
      · intro w' hSw; obtain ⟨k0, k1⟩ := hcg w' hSw; go_simp
      try simp only [Act.put, List.getElem_toArray, List.getElem_cons_succ, List.getElem_cons_zero, List.setIfInBounds_toArray, List.set_cons_zero, List.set_cons_succ]
      refine wpAnyH_take (i := 5) (v := .pointer (some ⟨w5.heap.size, 0, none⟩)) rfl (by kernel_rfl) (by kernel_rfl) (by kernel_rfl) (fun _ _ _ h => h) (Or.inl ⟨by rfl, ?_⟩) hHeld ?_
      · intro w' hSw; go_simp
      try simp only [Act.put, List.getElem_toArray, List.getElem_cons_succ, List.getElem_cons_zero, List.setIfInBounds_toArray, List.set_cons_zero, List.set_cons_succ]
      refine wpAnyH_take (i := 6) (v := .slice a1 sx.1.length c1) rfl (by kernel_rfl) (by kernel_rfl) (by kernel_rfl) (fun _ _ _ h => h) (Or.inl ⟨by rfl, ?_⟩) hHeld ?_
      · intro w' hSw; have kx := (hce w' hSw).1; go_simp
      try simp only [Act.put, List.getElem_toArray, List.getElem_cons_succ, List.getElem_cons_zero, List.setIfInBounds_toArray, List.set_cons_zero, List.set_cons_succ]
      refine wpAnyH_take (i := 7) (v := .string ⟨sx.1.toArray⟩) rfl (by kernel_rfl) (by kernel_rfl) (by kernel_rfl) (fun _ _ _ h => h) (Or.inl ⟨by rfl, ?_⟩) hHeld ?_
      · intro w' hSw; have kx := (hcv w' hSw).1; go_simp
      try simp only [Act.put, List.getElem_toArray, List.getElem_cons_succ, List.getElem_cons_zero, List.setIfInBounds_toArray, List.set_cons_zero, List.set_cons_succ]
      refine wpAnyH_take (i := 8) (v := .pointer (some ⟨w5.heap.size, 1, none⟩)) rfl (by kernel_rfl) (by kernel_rfl) (by kernel_rfl) (fun _ _ _ h => h) (Or.inl ⟨by rfl, ?_⟩) hHeld ?_
      · intro w' hSw; go_simp
      try simp only [Act.put, List.getElem_toArray, List.getElem_cons_succ, List.getElem_cons_zero, List.setIfInBounds_toArray, List.set_cons_zero, List.set_cons_succ]
      refine wpAnyH_take (i := 9) (v := .slice a2 sx.2.length c2) rfl (by kernel_rfl) (by kernel_rfl) (by kernel_rfl) (fun _ _ _ h => h) (Or.inl ⟨by rfl, ?_⟩) hHeld ?_
      · intro w' hSw; have kx := (hce w' hSw).2.1; go_simp
      try simp only [Act.put, List.getElem_toArray, List.getElem_cons_succ, List.getElem_cons_zero, List.setIfInBounds_toArray, List.set_cons_zero, List.set_cons_succ]
      refine wpAnyH_take (i := 10) (v := .string ⟨sx.2.toArray⟩) rfl (by kernel_rfl) (by kernel_rfl) (by kernel_rfl) (fun _ _ _ h => h) (Or.inl ⟨by rfl, ?_⟩) hHeld ?_
      · intro w' hSw; have kx := (hcv w' hSw).2.1; go_simp
      try simp only [Act.put, List.getElem_toArray, List.getElem_cons_succ, List.getElem_cons_zero, List.setIfInBounds_toArray, List.set_cons_zero, List.set_cons_succ]
      refine wpAnyH_ready (rs := [11]) (by kernel_rfl) (by simp) ?_
      refine allCall (f := 19) (args := #[.agg #[.slice b1 sx.1.length d1, .slice b2 sx.2.length d2], .bool true, .string ⟨sx.1.toArray⟩, .string ⟨sx.2.toArray⟩]) rfl (by kernel_rfl) ?_ ?_ AllReadyH.nil
      · kernel_rfl
      · refine told_any 0 w8.heap.size _ _ sx.1 sx.2 sx.1 sx.2 true w8.drew (Sl.below Hg0.out (flat_loc _) hd8 (Nat.le_refl _)) (Sl.below Hg1.out (flat_loc _) hd8 (Nat.le_refl _)) (Nat.le_refl _) _ (fun w9 hB9 => ?_)
        rw [beq_self_eq_true, beq_self_eq_true]
        have hB89 : Below w8.heap.size w8 w9 := hd8.trans hB9
        refine ⟨_, rfl, hB89, ?_⟩
        have hHeld := hB89
        try simp only [Act.put, List.getElem_toArray, List.getElem_cons_succ, List.getElem_cons_zero, List.setIfInBounds_toArray, List.set_cons_zero, List.set_cons_succ]
        refine wpAnyH_take (i := 12) (v := .bool false) rfl (by kernel_rfl) (by kernel_rfl) (by kernel_rfl) (fun _ _ _ h => h) (Or.inl ⟨by rfl, ?_⟩) hHeld ?_
        · intro w' hSw; go_simp
        try simp only [Act.put, List.getElem_toArray, List.getElem_cons_succ, List.getElem_cons_zero, List.setIfInBounds_toArray, List.set_cons_zero, List.set_cons_succ]
        refine wpAnyH_take (i := 13) (v := .bool false) rfl (by kernel_rfl) (by kernel_rfl) (by kernel_rfl) (fun _ _ _ h => h) (Or.inl ⟨by rfl, ?_⟩) hHeld ?_
        · intro w' hSw; go_simp
        try simp only [Act.put, List.getElem_toArray, List.getElem_cons_succ, List.getElem_cons_zero, List.setIfInBounds_toArray, List.set_cons_zero, List.set_cons_succ]
        refine wpAnyH_take (i := 14) (v := .bool false) rfl (by kernel_rfl) (by kernel_rfl) (by kernel_rfl) (fun _ _ _ h => h) (Or.inl ⟨by rfl, ?_⟩) hHeld ?_
        · intro w' hSw; go_simp
        try simp only [Act.put, List.getElem_toArray, List.getElem_cons_succ, List.getElem_cons_zero, List.setIfInBounds_toArray, List.set_cons_zero, List.set_cons_succ]
        refine wpAnyH_take (i := 15) (v := .bool true) rfl (by kernel_rfl) (by kernel_rfl) (by kernel_rfl) (fun _ _ _ h => h) (Or.inl ⟨by rfl, ?_⟩) hHeld ?_
        · intro w' hSw; go_simp
        try simp only [Act.put, List.getElem_toArray, List.getElem_cons_succ, List.getElem_cons_zero, List.setIfInBounds_toArray, List.set_cons_zero, List.set_cons_succ]
        refine wpAnyH_take (i := 16) (v := .bool true) rfl (by kernel_rfl) (by kernel_rfl) (by kernel_rfl) (fun _ _ _ h => h) (Or.inl ⟨by rfl, ?_⟩) hHeld ?_
        · intro w' hSw; go_simp
        try simp only [Act.put, List.getElem_toArray, List.getElem_cons_succ, List.getElem_cons_zero, List.setIfInBounds_toArray, List.set_cons_zero, List.set_cons_succ]
        have w1b : IntKind.i64.wrap (nl : Int) = (nl : Int) := wrap_ok (by omega) (by omega)
        have n0 : (0 : Int) ≤ (nl : Int) := by omega
        have n1 : (nl : Int) < (nl : Int) + 1 := by omega
        refine wpAnyH_take (i := 17) (v := .slice (some ⟨gl, 0, none⟩) low.length cl) rfl (by kernel_rfl) (by kernel_rfl) (by kernel_rfl) (fun _ _ _ h => h) (Or.inl ⟨by rfl, ?_⟩) hHeld ?_
        · intro w' hSw; go_simp
        try simp only [Act.put, List.getElem_toArray, List.getElem_cons_succ, List.getElem_cons_zero, List.setIfInBounds_toArray, List.set_cons_zero, List.set_cons_succ]
        refine wpAnyH_take (i := 18) (v := .slice (some ⟨gl, 0, none⟩) low.length cl) rfl (by kernel_rfl) (by kernel_rfl) (by kernel_rfl) (fun _ _ _ h => h) (Or.inl ⟨by rfl, ?_⟩) hHeld ?_
        · intro w' hSw; go_simp
        try simp only [Act.put, List.getElem_toArray, List.getElem_cons_succ, List.getElem_cons_zero, List.setIfInBounds_toArray, List.set_cons_zero, List.set_cons_succ]
        refine wpAnyH_take (i := 19) (v := .int .i64 ((nl : Int) + 1)) rfl (by kernel_rfl) (by kernel_rfl) (by kernel_rfl) (fun _ _ _ h => h) (Or.inl ⟨by rfl, ?_⟩) hHeld ?_
        · intro w' hSw; go_simp
        try simp only [Act.put, List.getElem_toArray, List.getElem_cons_succ, List.getElem_cons_zero, List.setIfInBounds_toArray, List.set_cons_zero, List.set_cons_succ]
        refine wpAnyH_take (i := 20) (v := .int .i64 nl) rfl (by kernel_rfl) (by kernel_rfl) (by kernel_rfl) (fun _ _ _ h => h) (Or.inl ⟨by rfl, ?_⟩) hHeld ?_
        · intro w' hSw; go_simp
        try simp only [Act.put, List.getElem_toArray, List.getElem_cons_succ, List.getElem_cons_zero, List.setIfInBounds_toArray, List.set_cons_zero, List.set_cons_succ]
        refine wpAnyH_take (i := 21) (v := .pointer (some ⟨gl, nl * 2, none⟩)) rfl (by kernel_rfl) (by kernel_rfl) (by kernel_rfl) (fun _ _ _ h => h) (Or.inl ⟨by rfl, ?_⟩) hHeld ?_
        · intro w' hSw; go_simp
        try simp only [Act.put, List.getElem_toArray, List.getElem_cons_succ, List.getElem_cons_zero, List.setIfInBounds_toArray, List.set_cons_zero, List.set_cons_succ]
        refine wpAnyH_take (i := 22) (v := .agg #[.slice b3 sy.1.length d3, .slice b4 sy.2.length d4]) rfl (by kernel_rfl) (by kernel_rfl) (by kernel_rfl) (fun _ _ _ h => h) (Or.inl ⟨by rfl, ?_⟩) hHeld ?_
        · intro w' hSw; obtain ⟨k0, k1⟩ := hcl w' hSw; go_simp
        try simp only [Act.put, List.getElem_toArray, List.getElem_cons_succ, List.getElem_cons_zero, List.setIfInBounds_toArray, List.set_cons_zero, List.set_cons_succ]
        refine wpAnyH_take (i := 23) (v := .pointer (some ⟨w7.heap.size, 0, none⟩)) rfl (by kernel_rfl) (by kernel_rfl) (by kernel_rfl) (fun _ _ _ h => h) (Or.inl ⟨by rfl, ?_⟩) hHeld ?_
        · intro w' hSw; go_simp
        try simp only [Act.put, List.getElem_toArray, List.getElem_cons_succ, List.getElem_cons_zero, List.setIfInBounds_toArray, List.set_cons_zero, List.set_cons_succ]
        refine wpAnyH_take (i := 24) (v := .slice a3 sy.1.length c3) rfl (by kernel_rfl) (by kernel_rfl) (by kernel_rfl) (fun _ _ _ h => h) (Or.inl ⟨by rfl, ?_⟩) hHeld ?_
        · intro w' hSw; have kx := (hce w' hSw).2.2.1; go_simp
        try simp only [Act.put, List.getElem_toArray, List.getElem_cons_succ, List.getElem_cons_zero, List.setIfInBounds_toArray, List.set_cons_zero, List.set_cons_succ]
        refine wpAnyH_take (i := 25) (v := .string ⟨sy.1.toArray⟩) rfl (by kernel_rfl) (by kernel_rfl) (by kernel_rfl) (fun _ _ _ h => h) (Or.inl ⟨by rfl, ?_⟩) hHeld ?_
        · intro w' hSw; have kx := (hcv w' hSw).2.2.1; go_simp
        try simp only [Act.put, List.getElem_toArray, List.getElem_cons_succ, List.getElem_cons_zero, List.setIfInBounds_toArray, List.set_cons_zero, List.set_cons_succ]
        refine wpAnyH_take (i := 26) (v := .pointer (some ⟨w7.heap.size, 1, none⟩)) rfl (by kernel_rfl) (by kernel_rfl) (by kernel_rfl) (fun _ _ _ h => h) (Or.inl ⟨by rfl, ?_⟩) hHeld ?_
        · intro w' hSw; go_simp
        try simp only [Act.put, List.getElem_toArray, List.getElem_cons_succ, List.getElem_cons_zero, List.setIfInBounds_toArray, List.set_cons_zero, List.set_cons_succ]
        refine wpAnyH_take (i := 27) (v := .slice a4 sy.2.length c4) rfl (by kernel_rfl) (by kernel_rfl) (by kernel_rfl) (fun _ _ _ h => h) (Or.inl ⟨by rfl, ?_⟩) hHeld ?_
        · intro w' hSw; have kx := (hce w' hSw).2.2.2; go_simp
        try simp only [Act.put, List.getElem_toArray, List.getElem_cons_succ, List.getElem_cons_zero, List.setIfInBounds_toArray, List.set_cons_zero, List.set_cons_succ]
        refine wpAnyH_take (i := 28) (v := .string ⟨sy.2.toArray⟩) rfl (by kernel_rfl) (by kernel_rfl) (by kernel_rfl) (fun _ _ _ h => h) (Or.inl ⟨by rfl, ?_⟩) hHeld ?_
        · intro w' hSw; have kx := (hcv w' hSw).2.2.2.1; go_simp
        try simp only [Act.put, List.getElem_toArray, List.getElem_cons_succ, List.getElem_cons_zero, List.setIfInBounds_toArray, List.set_cons_zero, List.set_cons_succ]
        refine wpAnyH_ready (rs := [29]) (by kernel_rfl) (by simp) ?_
        refine allCall (f := 19) (args := #[.agg #[.slice b3 sy.1.length d3, .slice b4 sy.2.length d4], .bool true, .string ⟨sy.1.toArray⟩, .string ⟨sy.2.toArray⟩]) rfl (by kernel_rfl) ?_ ?_ AllReadyH.nil
        · kernel_rfl
        · refine told_any 0 w8.heap.size _ _ sy.1 sy.2 sy.1 sy.2 true w9 (Sl.below Hl0.out (flat_loc _) hB89 (Nat.le_refl _)) (Sl.below Hl1.out (flat_loc _) hB89 (Nat.le_refl _)) hB89.size _ (fun wE hBE => ?_)
          rw [beq_self_eq_true, beq_self_eq_true]
          have hB8E : Below w8.heap.size w8 wE := hB89.trans (hBE.mono hB89.size)
          refine ⟨_, rfl, hB8E, ?_⟩
          have hHeld := hB8E
          try simp only [Act.put, List.getElem_toArray, List.getElem_cons_succ, List.getElem_cons_zero, List.setIfInBounds_toArray, List.set_cons_zero, List.set_cons_succ]
          refine wpAnyH_take (i := 30) (v := .bool false) rfl (by kernel_rfl) (by kernel_rfl) (by kernel_rfl) (fun _ _ _ h => h) (Or.inl ⟨by rfl, ?_⟩) hHeld ?_
          · intro w' hSw; go_simp
          try simp only [Act.put, List.getElem_toArray, List.getElem_cons_succ, List.getElem_cons_zero, List.setIfInBounds_toArray, List.set_cons_zero, List.set_cons_succ]
          refine wpAnyH_take (i := 31) (v := .bool false) rfl (by kernel_rfl) (by kernel_rfl) (by kernel_rfl) (fun _ _ _ h => h) (Or.inl ⟨by rfl, ?_⟩) hHeld ?_
          · intro w' hSw; go_simp
          try simp only [Act.put, List.getElem_toArray, List.getElem_cons_succ, List.getElem_cons_zero, List.setIfInBounds_toArray, List.set_cons_zero, List.set_cons_succ]
          refine wpAnyH_take (i := 32) (v := .bool false) rfl (by kernel_rfl) (by kernel_rfl) (by kernel_rfl) (fun _ _ _ h => h) (Or.inl ⟨by rfl, ?_⟩) hHeld ?_
          · intro w' hSw; go_simp
          try simp only [Act.put, List.getElem_toArray, List.getElem_cons_succ, List.getElem_cons_zero, List.setIfInBounds_toArray, List.set_cons_zero, List.set_cons_succ]
          refine wpAnyH_done (by kernel_rfl) ?_ _
          obtain ⟨v1, v2, v3, v4, v5⟩ := hcv wE hB8E
          obtain ⟨e1, e2, e3, e4⟩ := hce wE hB8E
          have hr := HR.out wE (HB8.out.trans (hB8E.mono HB8.out.size))
          clear hHeld

          go_wp2_with fail
          first | exact hr | exact fin hr rfl
    · have hcmp1 : Op.bytesLess sx.1 key = false := by
        have hm : sx ∈ highL key t.toL := by rw [← Heh.out]; exact List.mem_of_getElem? hH
        have := of_decide_eq_true (List.mem_filter.1 hm).2
        rw [less_cmp]; exact decide_eq_false this
      have hh0 : 0 < high.length := (List.getElem?_eq_some_iff.1 hH).1
      have Hh := Lib.hid hH
      clear hH
      have hL0 : ¬ (0 < low.length) := by rw [hL]; exact Nat.lt_irrefl _
      clear hL
      go_wp2_with fail
      generalize w7.alloc (.cells #[.slice a3 sy.1.length c3, .slice a4 sy.2.length c4] 43) = w8 at *
      obtain ⟨s0, s1⟩ := Hbs8.out.cells.c2
      obtain ⟨y0, y1⟩ := Hby.out.cells.c2
      obtain ⟨gh, b1, d1, b2, d2, rfl, hgh, g0, g1, hg0, hg1⟩ := HPh8.out.at 0 hh0
      have hx : high[0] = sx := Option.some.inj ((List.getElem?_eq_getElem hh0).symm.trans Hh.out)
      rw [hx] at g0 g1 hg0 hg1
      rw [Nat.zero_mul] at g0 g1
      have Hg0 := Lib.hid (Sl.mono hg0 (flat_loc _) (Nat.zero_le _) (Nat.le_refl _))
      have Hg1 := Lib.hid (Sl.mono hg1 (flat_loc _) (Nat.zero_le _) (Nat.le_refl _))
      clear hg0 hg1 hx
      have hcv : ∀ w', Below w8.heap.size w8 w' → (convert 30 9 (.slice a1 sx.1.length c1)).run Try.prog w' = .ok (.string ⟨sx.1.toArray⟩) w' ∧ (convert 30 9 (.slice a2 sx.2.length c2)).run Try.prog w' = .ok (.string ⟨sx.2.toArray⟩) w' ∧ (convert 30 9 (.slice a3 sy.1.length c3)).run Try.prog w' = .ok (.string ⟨sy.1.toArray⟩) w' ∧ (convert 30 9 (.slice a4 sy.2.length c4)).run Try.prog w' = .ok (.string ⟨sy.2.toArray⟩) w' ∧ (convert 30 9 (.slice ak key.length ck)).run Try.prog w' = .ok (.string ⟨key.toArray⟩) w' := fun w' h =>
        ⟨str (Sl.below Hx18.out (flat_loc _) h (Nat.le_refl _)), str (Sl.below Hx28.out (flat_loc _) h (Nat.le_refl _)), str (Sl.below Hy1.out (flat_loc _) h (Nat.le_refl _)), str (Sl.below Hy2.out (flat_loc _) h (Nat.le_refl _)), str (Sl.below Hk8.out (flat_loc _) h hhi8)⟩
      have hce : ∀ w', Below w8.heap.size w8 w' → w'.cell? ⟨w5.heap.size, 0, none⟩ = some (.slice a1 sx.1.length c1) ∧ w'.cell? ⟨w5.heap.size, 1, none⟩ = some (.slice a2 sx.2.length c2) ∧ w'.cell? ⟨w7.heap.size, 0, none⟩ = some (.slice a3 sy.1.length c3) ∧ w'.cell? ⟨w7.heap.size, 1, none⟩ = some (.slice a4 sy.2.length c4) := fun w' h =>
        ⟨(World.cell?_of_block (h.block _ hs58)).trans s0, (World.cell?_of_block (h.block _ hs58)).trans s1, (World.cell?_of_block (h.block _ hs78)).trans y0, (World.cell?_of_block (h.block _ hs78)).trans y1⟩
      have hcg : ∀ w', Below w8.heap.size w8 w' → w'.cell? ⟨gh, 0, none⟩ = some (.slice b1 sx.1.length d1) ∧ w'.cell? ⟨gh, 0 + 1, none⟩ = some (.slice b2 sx.2.length d2) := fun w' h => ⟨(World.cell?_of_block (h.block _ hgh)).trans g0, (World.cell?_of_block (h.block _ hgh)).trans g1⟩
      clear g0 g1
      clear s0 s1 y0 y1
      have hd8 : Below w8.heap.size w8 w8.drew := Below.drew (Below.refl _ _)
      refine wp_region_held_drew (S := fun w' => Below w8.heap.size w8 w') (by kernel_rfl) hd8 (fun hHeld => ?_)
      refine wpAnyH_take (i := 0) (v := .bool true) rfl (by kernel_rfl) (by kernel_rfl) (by kernel_rfl) (fun _ _ _ h => h) (Or.inl ⟨by rfl, ?_⟩) hHeld ?_
      · intro w' hSw; go_simp
      try simp only [Act.put, List.getElem_toArray, List.getElem_cons_succ, List.getElem_cons_zero, List.setIfInBounds_toArray, List.set_cons_zero, List.set_cons_succ]
      refine wpAnyH_take (i := 1) (v := .bool true) rfl (by kernel_rfl) (by kernel_rfl) (by kernel_rfl) (fun _ _ _ h => h) (Or.inl ⟨by rfl, ?_⟩) hHeld ?_
      · intro w' hSw; go_simp
      try simp only [Act.put, List.getElem_toArray, List.getElem_cons_succ, List.getElem_cons_zero, List.setIfInBounds_toArray, List.set_cons_zero, List.set_cons_succ]
      refine wpAnyH_take (i := 2) (v := .slice (some ⟨gh, 0, none⟩) high.length ch) rfl (by kernel_rfl) (by kernel_rfl) (by kernel_rfl) (fun _ _ _ h => h) (Or.inl ⟨by rfl, ?_⟩) hHeld ?_
      · intro w' hSw; go_simp
      try simp only [Act.put, List.getElem_toArray, List.getElem_cons_succ, List.getElem_cons_zero, List.setIfInBounds_toArray, List.set_cons_zero, List.set_cons_succ]
      refine wpAnyH_take (i := 3) (v := .pointer (some ⟨gh, 0, none⟩)) rfl (by kernel_rfl) (by kernel_rfl) (by kernel_rfl) (fun _ _ _ h => h) (Or.inl ⟨by rfl, ?_⟩) hHeld ?_
      · intro w' hSw; go_simp
      try simp only [Act.put, List.getElem_toArray, List.getElem_cons_succ, List.getElem_cons_zero, List.setIfInBounds_toArray, List.set_cons_zero, List.set_cons_succ]
      refine wpAnyH_take (i := 4) (v := .agg #[.slice b1 sx.1.length d1, .slice b2 sx.2.length d2]) rfl (by kernel_rfl) (by kernel_rfl) (by kernel_rfl) (fun _ _ _ h => h) (Or.inl ⟨by rfl, ?_⟩) hHeld ?_
      · intro w' hSw; obtain ⟨k0, k1⟩ := hcg w' hSw; go_simp
      try simp only [Act.put, List.getElem_toArray, List.getElem_cons_succ, List.getElem_cons_zero, List.setIfInBounds_toArray, List.set_cons_zero, List.set_cons_succ]
      refine wpAnyH_take (i := 5) (v := .pointer (some ⟨w5.heap.size, 0, none⟩)) rfl (by kernel_rfl) (by kernel_rfl) (by kernel_rfl) (fun _ _ _ h => h) (Or.inl ⟨by rfl, ?_⟩) hHeld ?_
      · intro w' hSw; go_simp
      try simp only [Act.put, List.getElem_toArray, List.getElem_cons_succ, List.getElem_cons_zero, List.setIfInBounds_toArray, List.set_cons_zero, List.set_cons_succ]
      refine wpAnyH_take (i := 6) (v := .slice a1 sx.1.length c1) rfl (by kernel_rfl) (by kernel_rfl) (by kernel_rfl) (fun _ _ _ h => h) (Or.inl ⟨by rfl, ?_⟩) hHeld ?_
      · intro w' hSw; have kx := (hce w' hSw).1; go_simp
      try simp only [Act.put, List.getElem_toArray, List.getElem_cons_succ, List.getElem_cons_zero, List.setIfInBounds_toArray, List.set_cons_zero, List.set_cons_succ]
      refine wpAnyH_take (i := 7) (v := .string ⟨sx.1.toArray⟩) rfl (by kernel_rfl) (by kernel_rfl) (by kernel_rfl) (fun _ _ _ h => h) (Or.inl ⟨by rfl, ?_⟩) hHeld ?_
      · intro w' hSw; have kx := (hcv w' hSw).1; go_simp
      try simp only [Act.put, List.getElem_toArray, List.getElem_cons_succ, List.getElem_cons_zero, List.setIfInBounds_toArray, List.set_cons_zero, List.set_cons_succ]
      refine wpAnyH_take (i := 8) (v := .pointer (some ⟨w5.heap.size, 1, none⟩)) rfl (by kernel_rfl) (by kernel_rfl) (by kernel_rfl) (fun _ _ _ h => h) (Or.inl ⟨by rfl, ?_⟩) hHeld ?_
      · intro w' hSw; go_simp
      try simp only [Act.put, List.getElem_toArray, List.getElem_cons_succ, List.getElem_cons_zero, List.setIfInBounds_toArray, List.set_cons_zero, List.set_cons_succ]
      refine wpAnyH_take (i := 9) (v := .slice a2 sx.2.length c2) rfl (by kernel_rfl) (by kernel_rfl) (by kernel_rfl) (fun _ _ _ h => h) (Or.inl ⟨by rfl, ?_⟩) hHeld ?_
      · intro w' hSw; have kx := (hce w' hSw).2.1; go_simp
      try simp only [Act.put, List.getElem_toArray, List.getElem_cons_succ, List.getElem_cons_zero, List.setIfInBounds_toArray, List.set_cons_zero, List.set_cons_succ]
      refine wpAnyH_take (i := 10) (v := .string ⟨sx.2.toArray⟩) rfl (by kernel_rfl) (by kernel_rfl) (by kernel_rfl) (fun _ _ _ h => h) (Or.inl ⟨by rfl, ?_⟩) hHeld ?_
      · intro w' hSw; have kx := (hcv w' hSw).2.1; go_simp
      try simp only [Act.put, List.getElem_toArray, List.getElem_cons_succ, List.getElem_cons_zero, List.setIfInBounds_toArray, List.set_cons_zero, List.set_cons_succ]
      refine wpAnyH_ready (rs := [11]) (by kernel_rfl) (by simp) ?_
      refine allCall (f := 19) (args := #[.agg #[.slice b1 sx.1.length d1, .slice b2 sx.2.length d2], .bool true, .string ⟨sx.1.toArray⟩, .string ⟨sx.2.toArray⟩]) rfl (by kernel_rfl) ?_ ?_ AllReadyH.nil
      · kernel_rfl
      · refine told_any 0 w8.heap.size _ _ sx.1 sx.2 sx.1 sx.2 true w8.drew (Sl.below Hg0.out (flat_loc _) hd8 (Nat.le_refl _)) (Sl.below Hg1.out (flat_loc _) hd8 (Nat.le_refl _)) (Nat.le_refl _) _ (fun w9 hB9 => ?_)
        rw [beq_self_eq_true, beq_self_eq_true]
        have hB89 : Below w8.heap.size w8 w9 := hd8.trans hB9
        refine ⟨_, rfl, hB89, ?_⟩
        have hHeld := hB89
        try simp only [Act.put, List.getElem_toArray, List.getElem_cons_succ, List.getElem_cons_zero, List.setIfInBounds_toArray, List.set_cons_zero, List.set_cons_succ]
        refine wpAnyH_take (i := 12) (v := .bool false) rfl (by kernel_rfl) (by kernel_rfl) (by kernel_rfl) (fun _ _ _ h => h) (Or.inl ⟨by rfl, ?_⟩) hHeld ?_
        · intro w' hSw; go_simp
        try simp only [Act.put, List.getElem_toArray, List.getElem_cons_succ, List.getElem_cons_zero, List.setIfInBounds_toArray, List.set_cons_zero, List.set_cons_succ]
        refine wpAnyH_take (i := 13) (v := .bool false) rfl (by kernel_rfl) (by kernel_rfl) (by kernel_rfl) (fun _ _ _ h => h) (Or.inl ⟨by rfl, ?_⟩) hHeld ?_
        · intro w' hSw; go_simp
        try simp only [Act.put, List.getElem_toArray, List.getElem_cons_succ, List.getElem_cons_zero, List.setIfInBounds_toArray, List.set_cons_zero, List.set_cons_succ]
        refine wpAnyH_take (i := 14) (v := .bool false) rfl (by kernel_rfl) (by kernel_rfl) (by kernel_rfl) (fun _ _ _ h => h) (Or.inl ⟨by rfl, ?_⟩) hHeld ?_
        · intro w' hSw; go_simp
        try simp only [Act.put, List.getElem_toArray, List.getElem_cons_succ, List.getElem_cons_zero, List.setIfInBounds_toArray, List.set_cons_zero, List.set_cons_succ]
        refine wpAnyH_take (i := 15) (v := .bool false) rfl (by kernel_rfl) (by kernel_rfl) (by kernel_rfl) (fun _ _ _ h => h) (Or.inl ⟨by rfl, ?_⟩) hHeld ?_
        · intro w' hSw; go_simp
        try simp only [Act.put, List.getElem_toArray, List.getElem_cons_succ, List.getElem_cons_zero, List.setIfInBounds_toArray, List.set_cons_zero, List.set_cons_succ]
        refine wpAnyH_take (i := 16) (v := .bool false) rfl (by kernel_rfl) (by kernel_rfl) (by kernel_rfl) (fun _ _ _ h => h) (Or.inl ⟨by rfl, ?_⟩) hHeld ?_
        · intro w' hSw; go_simp
        try simp only [Act.put, List.getElem_toArray, List.getElem_cons_succ, List.getElem_cons_zero, List.setIfInBounds_toArray, List.set_cons_zero, List.set_cons_succ]
        refine wpAnyH_take (i := 17) (v := undef) rfl (by kernel_rfl) (by kernel_rfl) (by kernel_rfl) (fun _ _ _ h => h) (Or.inr ⟨by kernel_rfl, rfl⟩) hHeld ?_
        try simp only [Act.put, List.getElem_toArray, List.getElem_cons_succ, List.getElem_cons_zero, List.setIfInBounds_toArray, List.set_cons_zero, List.set_cons_succ]
        refine wpAnyH_take (i := 18) (v := undef) rfl (by kernel_rfl) (by kernel_rfl) (by kernel_rfl) (fun _ _ _ h => h) (Or.inr ⟨by kernel_rfl, rfl⟩) hHeld ?_
        try simp only [Act.put, List.getElem_toArray, List.getElem_cons_succ, List.getElem_cons_zero, List.setIfInBounds_toArray, List.set_cons_zero, List.set_cons_succ]
        refine wpAnyH_take (i := 19) (v := undef) rfl (by kernel_rfl) (by kernel_rfl) (by kernel_rfl) (fun _ _ _ h => h) (Or.inr ⟨by kernel_rfl, rfl⟩) hHeld ?_
        try simp only [Act.put, List.getElem_toArray, List.getElem_cons_succ, List.getElem_cons_zero, List.setIfInBounds_toArray, List.set_cons_zero, List.set_cons_succ]
        refine wpAnyH_take (i := 20) (v := undef) rfl (by kernel_rfl) (by kernel_rfl) (by kernel_rfl) (fun _ _ _ h => h) (Or.inr ⟨by kernel_rfl, rfl⟩) hHeld ?_
        try simp only [Act.put, List.getElem_toArray, List.getElem_cons_succ, List.getElem_cons_zero, List.setIfInBounds_toArray, List.set_cons_zero, List.set_cons_succ]
        refine wpAnyH_take (i := 21) (v := undef) rfl (by kernel_rfl) (by kernel_rfl) (by kernel_rfl) (fun _ _ _ h => h) (Or.inr ⟨by kernel_rfl, rfl⟩) hHeld ?_
        try simp only [Act.put, List.getElem_toArray, List.getElem_cons_succ, List.getElem_cons_zero, List.setIfInBounds_toArray, List.set_cons_zero, List.set_cons_succ]
        refine wpAnyH_take (i := 22) (v := undef) rfl (by kernel_rfl) (by kernel_rfl) (by kernel_rfl) (fun _ _ _ h => h) (Or.inr ⟨by kernel_rfl, rfl⟩) hHeld ?_
        try simp only [Act.put, List.getElem_toArray, List.getElem_cons_succ, List.getElem_cons_zero, List.setIfInBounds_toArray, List.set_cons_zero, List.set_cons_succ]
        refine wpAnyH_take (i := 23) (v := undef) rfl (by kernel_rfl) (by kernel_rfl) (by kernel_rfl) (fun _ _ _ h => h) (Or.inr ⟨by kernel_rfl, rfl⟩) hHeld ?_
        try simp only [Act.put, List.getElem_toArray, List.getElem_cons_succ, List.getElem_cons_zero, List.setIfInBounds_toArray, List.set_cons_zero, List.set_cons_succ]
        refine wpAnyH_take (i := 24) (v := undef) rfl (by kernel_rfl) (by kernel_rfl) (by kernel_rfl) (fun _ _ _ h => h) (Or.inr ⟨by kernel_rfl, rfl⟩) hHeld ?_
        try simp only [Act.put, List.getElem_toArray, List.getElem_cons_succ, List.getElem_cons_zero, List.setIfInBounds_toArray, List.set_cons_zero, List.set_cons_succ]
        refine wpAnyH_take (i := 25) (v := undef) rfl (by kernel_rfl) (by kernel_rfl) (by kernel_rfl) (fun _ _ _ h => h) (Or.inr ⟨by kernel_rfl, rfl⟩) hHeld ?_
        try simp only [Act.put, List.getElem_toArray, List.getElem_cons_succ, List.getElem_cons_zero, List.setIfInBounds_toArray, List.set_cons_zero, List.set_cons_succ]
        refine wpAnyH_take (i := 26) (v := undef) rfl (by kernel_rfl) (by kernel_rfl) (by kernel_rfl) (fun _ _ _ h => h) (Or.inr ⟨by kernel_rfl, rfl⟩) hHeld ?_
        try simp only [Act.put, List.getElem_toArray, List.getElem_cons_succ, List.getElem_cons_zero, List.setIfInBounds_toArray, List.set_cons_zero, List.set_cons_succ]
        refine wpAnyH_take (i := 27) (v := undef) rfl (by kernel_rfl) (by kernel_rfl) (by kernel_rfl) (fun _ _ _ h => h) (Or.inr ⟨by kernel_rfl, rfl⟩) hHeld ?_
        try simp only [Act.put, List.getElem_toArray, List.getElem_cons_succ, List.getElem_cons_zero, List.setIfInBounds_toArray, List.set_cons_zero, List.set_cons_succ]
        refine wpAnyH_take (i := 28) (v := undef) rfl (by kernel_rfl) (by kernel_rfl) (by kernel_rfl) (fun _ _ _ h => h) (Or.inr ⟨by kernel_rfl, rfl⟩) hHeld ?_
        try simp only [Act.put, List.getElem_toArray, List.getElem_cons_succ, List.getElem_cons_zero, List.setIfInBounds_toArray, List.set_cons_zero, List.set_cons_succ]
        refine wpAnyH_take (i := 29) (v := undef) rfl (by kernel_rfl) (by kernel_rfl) (by kernel_rfl) (fun _ _ _ h => h) (Or.inr ⟨by kernel_rfl, rfl⟩) hHeld ?_
        try simp only [Act.put, List.getElem_toArray, List.getElem_cons_succ, List.getElem_cons_zero, List.setIfInBounds_toArray, List.set_cons_zero, List.set_cons_succ]
        refine wpAnyH_take (i := 30) (v := undef) rfl (by kernel_rfl) (by kernel_rfl) (by kernel_rfl) (fun _ _ _ h => h) (Or.inr ⟨by kernel_rfl, rfl⟩) hHeld ?_
        try simp only [Act.put, List.getElem_toArray, List.getElem_cons_succ, List.getElem_cons_zero, List.setIfInBounds_toArray, List.set_cons_zero, List.set_cons_succ]
        refine wpAnyH_take (i := 31) (v := .bool false) rfl (by kernel_rfl) (by kernel_rfl) (by kernel_rfl) (fun _ _ _ h => h) (Or.inl ⟨by rfl, ?_⟩) hHeld ?_
        · intro w' hSw; go_simp
        try simp only [Act.put, List.getElem_toArray, List.getElem_cons_succ, List.getElem_cons_zero, List.setIfInBounds_toArray, List.set_cons_zero, List.set_cons_succ]
        refine wpAnyH_take (i := 32) (v := .bool false) rfl (by kernel_rfl) (by kernel_rfl) (by kernel_rfl) (fun _ _ _ h => h) (Or.inl ⟨by rfl, ?_⟩) hHeld ?_
        · intro w' hSw; go_simp
        try simp only [Act.put, List.getElem_toArray, List.getElem_cons_succ, List.getElem_cons_zero, List.setIfInBounds_toArray, List.set_cons_zero, List.set_cons_succ]
        refine wpAnyH_done (by kernel_rfl) ?_ _
        obtain ⟨v1, v2, v3, v4, v5⟩ := hcv w9 hB89
        obtain ⟨e1, e2, e3, e4⟩ := hce w9 hB89
        have hr := HR.out w9 (HB8.out.trans (hB89.mono HB8.out.size))
        clear hHeld

        go_wp2_with fail
        first | exact hr | exact fin hr rfl
  · rcases Hcb.out with ⟨rfl, hL0, hL⟩ | ⟨rfl, hL⟩
    · have hh0 : ¬ (0 < high.length) := by rw [hH]; exact Nat.lt_irrefl _
      clear hH
      have hcmp2 : Op.bytesLess sy.1 key = true := by
        have hm : sy ∈ lowL key t.toL := by rw [← Hel.out]; exact List.mem_of_getElem? hL
        have := of_decide_eq_true (List.mem_filter.1 hm).2
        rw [less_cmp]; exact decide_eq_true this
      have Hl := Lib.hid hL
      clear hL
      go_wp2_with fail
      generalize w7.alloc (.cells #[.slice a3 sy.1.length c3, .slice a4 sy.2.length c4] 43) = w8 at *
      obtain ⟨s0, s1⟩ := Hbs8.out.cells.c2
      obtain ⟨y0, y1⟩ := Hby.out.cells.c2
      obtain ⟨gl, b3, d3, b4, d4, rfl, hgl, l0, l1, hl0', hl1'⟩ := HPl8.out.at (low.length - 1) (by omega)
      have hy : low[low.length - 1]'(by omega) = sy := Option.some.inj ((List.getElem?_eq_getElem (by omega)).symm.trans Hl.out)
      rw [hy] at l0 l1 hl0' hl1'
      have Hl0 := Lib.hid (Sl.mono hl0' (flat_loc _) (Nat.zero_le _) (Nat.le_refl _))
      have Hl1 := Lib.hid (Sl.mono hl1' (flat_loc _) (Nat.zero_le _) (Nat.le_refl _))
      obtain ⟨nl, enl⟩ : ∃ nl, low.length = nl + 1 := ⟨low.length - 1, by omega⟩
      rw [enl, Nat.add_sub_cancel] at l0 l1
      have hnl : nl ≤ 1000000 := by have := Hsum.out; omega
      have hle : low.length = nl + 1 := enl
      clear hl0' hl1' hy enl
      have hcv : ∀ w', Below w8.heap.size w8 w' → (convert 30 9 (.slice a1 sx.1.length c1)).run Try.prog w' = .ok (.string ⟨sx.1.toArray⟩) w' ∧ (convert 30 9 (.slice a2 sx.2.length c2)).run Try.prog w' = .ok (.string ⟨sx.2.toArray⟩) w' ∧ (convert 30 9 (.slice a3 sy.1.length c3)).run Try.prog w' = .ok (.string ⟨sy.1.toArray⟩) w' ∧ (convert 30 9 (.slice a4 sy.2.length c4)).run Try.prog w' = .ok (.string ⟨sy.2.toArray⟩) w' ∧ (convert 30 9 (.slice ak key.length ck)).run Try.prog w' = .ok (.string ⟨key.toArray⟩) w' := fun w' h =>
        ⟨str (Sl.below Hx18.out (flat_loc _) h (Nat.le_refl _)), str (Sl.below Hx28.out (flat_loc _) h (Nat.le_refl _)), str (Sl.below Hy1.out (flat_loc _) h (Nat.le_refl _)), str (Sl.below Hy2.out (flat_loc _) h (Nat.le_refl _)), str (Sl.below Hk8.out (flat_loc _) h hhi8)⟩
      have hce : ∀ w', Below w8.heap.size w8 w' → w'.cell? ⟨w5.heap.size, 0, none⟩ = some (.slice a1 sx.1.length c1) ∧ w'.cell? ⟨w5.heap.size, 1, none⟩ = some (.slice a2 sx.2.length c2) ∧ w'.cell? ⟨w7.heap.size, 0, none⟩ = some (.slice a3 sy.1.length c3) ∧ w'.cell? ⟨w7.heap.size, 1, none⟩ = some (.slice a4 sy.2.length c4) := fun w' h =>
        ⟨(World.cell?_of_block (h.block _ hs58)).trans s0, (World.cell?_of_block (h.block _ hs58)).trans s1, (World.cell?_of_block (h.block _ hs78)).trans y0, (World.cell?_of_block (h.block _ hs78)).trans y1⟩
      have hcl : ∀ w', Below w8.heap.size w8 w' → w'.cell? ⟨gl, nl * 2, none⟩ = some (.slice b3 sy.1.length d3) ∧ w'.cell? ⟨gl, nl * 2 + 1, none⟩ = some (.slice b4 sy.2.length d4) := fun w' h => ⟨(World.cell?_of_block (h.block _ hgl)).trans l0, (World.cell?_of_block (h.block _ hgl)).trans l1⟩
      clear l0 l1
      clear s0 s1 y0 y1
      have hd8 : Below w8.heap.size w8 w8.drew := Below.drew (Below.refl _ _)
      refine wp_region_held_drew (S := fun w' => Below w8.heap.size w8 w') (by kernel_rfl) hd8 (fun hHeld => ?_)
      refine wpAnyH_take (i := 0) (v := .bool false) rfl (by kernel_rfl) (by kernel_rfl) (by kernel_rfl) (fun _ _ _ h => h) (Or.inl ⟨by rfl, ?_⟩) hHeld ?_
      · intro w' hSw; go_simp
      try simp only [Act.put, List.getElem_toArray, List.getElem_cons_succ, List.getElem_cons_zero, List.setIfInBounds_toArray, List.set_cons_zero, List.set_cons_succ]
      refine wpAnyH_take (i := 1) (v := .bool false) rfl (by kernel_rfl) (by kernel_rfl) (by kernel_rfl) (fun _ _ _ h => h) (Or.inl ⟨by rfl, ?_⟩) hHeld ?_
      · intro w' hSw; go_simp
      try simp only [Act.put, List.getElem_toArray, List.getElem_cons_succ, List.getElem_cons_zero, List.setIfInBounds_toArray, List.set_cons_zero, List.set_cons_succ]
      refine wpAnyH_take (i := 2) (v := undef) rfl (by kernel_rfl) (by kernel_rfl) (by kernel_rfl) (fun _ _ _ h => h) (Or.inr ⟨by kernel_rfl, rfl⟩) hHeld ?_
      try simp only [Act.put, List.getElem_toArray, List.getElem_cons_succ, List.getElem_cons_zero, List.setIfInBounds_toArray, List.set_cons_zero, List.set_cons_succ]
      refine wpAnyH_take (i := 3) (v := undef) rfl (by kernel_rfl) (by kernel_rfl) (by kernel_rfl) (fun _ _ _ h => h) (Or.inr ⟨by kernel_rfl, rfl⟩) hHeld ?_
      try simp only [Act.put, List.getElem_toArray, List.getElem_cons_succ, List.getElem_cons_zero, List.setIfInBounds_toArray, List.set_cons_zero, List.set_cons_succ]
      refine wpAnyH_take (i := 4) (v := undef) rfl (by kernel_rfl) (by kernel_rfl) (by kernel_rfl) (fun _ _ _ h => h) (Or.inr ⟨by kernel_rfl, rfl⟩) hHeld ?_
      try simp only [Act.put, List.getElem_toArray, List.getElem_cons_succ, List.getElem_cons_zero, List.setIfInBounds_toArray, List.set_cons_zero, List.set_cons_succ]
      refine wpAnyH_take (i := 5) (v := undef) rfl (by kernel_rfl) (by kernel_rfl) (by kernel_rfl) (fun _ _ _ h => h) (Or.inr ⟨by kernel_rfl, rfl⟩) hHeld ?_
      try simp only [Act.put, List.getElem_toArray, List.getElem_cons_succ, List.getElem_cons_zero, List.setIfInBounds_toArray, List.set_cons_zero, List.set_cons_succ]
      refine wpAnyH_take (i := 6) (v := undef) rfl (by kernel_rfl) (by kernel_rfl) (by kernel_rfl) (fun _ _ _ h => h) (Or.inr ⟨by kernel_rfl, rfl⟩) hHeld ?_
      try simp only [Act.put, List.getElem_toArray, List.getElem_cons_succ, List.getElem_cons_zero, List.setIfInBounds_toArray, List.set_cons_zero, List.set_cons_succ]
      refine wpAnyH_take (i := 7) (v := undef) rfl (by kernel_rfl) (by kernel_rfl) (by kernel_rfl) (fun _ _ _ h => h) (Or.inr ⟨by kernel_rfl, rfl⟩) hHeld ?_
      try simp only [Act.put, List.getElem_toArray, List.getElem_cons_succ, List.getElem_cons_zero, List.setIfInBounds_toArray, List.set_cons_zero, List.set_cons_succ]
      refine wpAnyH_take (i := 8) (v := undef) rfl (by kernel_rfl) (by kernel_rfl) (by kernel_rfl) (fun _ _ _ h => h) (Or.inr ⟨by kernel_rfl, rfl⟩) hHeld ?_
      try simp only [Act.put, List.getElem_toArray, List.getElem_cons_succ, List.getElem_cons_zero, List.setIfInBounds_toArray, List.set_cons_zero, List.set_cons_succ]
      refine wpAnyH_take (i := 9) (v := undef) rfl (by kernel_rfl) (by kernel_rfl) (by kernel_rfl) (fun _ _ _ h => h) (Or.inr ⟨by kernel_rfl, rfl⟩) hHeld ?_
      try simp only [Act.put, List.getElem_toArray, List.getElem_cons_succ, List.getElem_cons_zero, List.setIfInBounds_toArray, List.set_cons_zero, List.set_cons_succ]
      refine wpAnyH_take (i := 10) (v := undef) rfl (by kernel_rfl) (by kernel_rfl) (by kernel_rfl) (fun _ _ _ h => h) (Or.inr ⟨by kernel_rfl, rfl⟩) hHeld ?_
      try simp only [Act.put, List.getElem_toArray, List.getElem_cons_succ, List.getElem_cons_zero, List.setIfInBounds_toArray, List.set_cons_zero, List.set_cons_succ]
      refine wpAnyH_take (i := 11) (v := undef) rfl (by kernel_rfl) (by kernel_rfl) (by kernel_rfl) (fun _ _ _ h => h) (Or.inr ⟨by kernel_rfl, rfl⟩) hHeld ?_
      try simp only [Act.put, List.getElem_toArray, List.getElem_cons_succ, List.getElem_cons_zero, List.setIfInBounds_toArray, List.set_cons_zero, List.set_cons_succ]
      refine wpAnyH_take (i := 12) (v := undef) rfl (by kernel_rfl) (by kernel_rfl) (by kernel_rfl) (fun _ _ _ h => h) (Or.inr ⟨by kernel_rfl, rfl⟩) hHeld ?_
      try simp only [Act.put, List.getElem_toArray, List.getElem_cons_succ, List.getElem_cons_zero, List.setIfInBounds_toArray, List.set_cons_zero, List.set_cons_succ]
      refine wpAnyH_take (i := 13) (v := .bool false) rfl (by kernel_rfl) (by kernel_rfl) (by kernel_rfl) (fun _ _ _ h => h) (Or.inl ⟨by rfl, ?_⟩) hHeld ?_
      · intro w' hSw; go_simp
      try simp only [Act.put, List.getElem_toArray, List.getElem_cons_succ, List.getElem_cons_zero, List.setIfInBounds_toArray, List.set_cons_zero, List.set_cons_succ]
      refine wpAnyH_take (i := 14) (v := .bool false) rfl (by kernel_rfl) (by kernel_rfl) (by kernel_rfl) (fun _ _ _ h => h) (Or.inl ⟨by rfl, ?_⟩) hHeld ?_
      · intro w' hSw; go_simp
      try simp only [Act.put, List.getElem_toArray, List.getElem_cons_succ, List.getElem_cons_zero, List.setIfInBounds_toArray, List.set_cons_zero, List.set_cons_succ]
      refine wpAnyH_take (i := 15) (v := .bool true) rfl (by kernel_rfl) (by kernel_rfl) (by kernel_rfl) (fun _ _ _ h => h) (Or.inl ⟨by rfl, ?_⟩) hHeld ?_
      · intro w' hSw; go_simp
      try simp only [Act.put, List.getElem_toArray, List.getElem_cons_succ, List.getElem_cons_zero, List.setIfInBounds_toArray, List.set_cons_zero, List.set_cons_succ]
      refine wpAnyH_take (i := 16) (v := .bool true) rfl (by kernel_rfl) (by kernel_rfl) (by kernel_rfl) (fun _ _ _ h => h) (Or.inl ⟨by rfl, ?_⟩) hHeld ?_
      · intro w' hSw; go_simp
      try simp only [Act.put, List.getElem_toArray, List.getElem_cons_succ, List.getElem_cons_zero, List.setIfInBounds_toArray, List.set_cons_zero, List.set_cons_succ]
      have w1b : IntKind.i64.wrap (nl : Int) = (nl : Int) := wrap_ok (by omega) (by omega)
      have n0 : (0 : Int) ≤ (nl : Int) := by omega
      have n1 : (nl : Int) < (nl : Int) + 1 := by omega
      refine wpAnyH_take (i := 17) (v := .slice (some ⟨gl, 0, none⟩) low.length cl) rfl (by kernel_rfl) (by kernel_rfl) (by kernel_rfl) (fun _ _ _ h => h) (Or.inl ⟨by rfl, ?_⟩) hHeld ?_
      · intro w' hSw; go_simp
      try simp only [Act.put, List.getElem_toArray, List.getElem_cons_succ, List.getElem_cons_zero, List.setIfInBounds_toArray, List.set_cons_zero, List.set_cons_succ]
      refine wpAnyH_take (i := 18) (v := .slice (some ⟨gl, 0, none⟩) low.length cl) rfl (by kernel_rfl) (by kernel_rfl) (by kernel_rfl) (fun _ _ _ h => h) (Or.inl ⟨by rfl, ?_⟩) hHeld ?_
      · intro w' hSw; go_simp
      try simp only [Act.put, List.getElem_toArray, List.getElem_cons_succ, List.getElem_cons_zero, List.setIfInBounds_toArray, List.set_cons_zero, List.set_cons_succ]
      refine wpAnyH_take (i := 19) (v := .int .i64 ((nl : Int) + 1)) rfl (by kernel_rfl) (by kernel_rfl) (by kernel_rfl) (fun _ _ _ h => h) (Or.inl ⟨by rfl, ?_⟩) hHeld ?_
      · intro w' hSw; go_simp
      try simp only [Act.put, List.getElem_toArray, List.getElem_cons_succ, List.getElem_cons_zero, List.setIfInBounds_toArray, List.set_cons_zero, List.set_cons_succ]
      refine wpAnyH_take (i := 20) (v := .int .i64 nl) rfl (by kernel_rfl) (by kernel_rfl) (by kernel_rfl) (fun _ _ _ h => h) (Or.inl ⟨by rfl, ?_⟩) hHeld ?_
      · intro w' hSw; go_simp
      try simp only [Act.put, List.getElem_toArray, List.getElem_cons_succ, List.getElem_cons_zero, List.setIfInBounds_toArray, List.set_cons_zero, List.set_cons_succ]
      refine wpAnyH_take (i := 21) (v := .pointer (some ⟨gl, nl * 2, none⟩)) rfl (by kernel_rfl) (by kernel_rfl) (by kernel_rfl) (fun _ _ _ h => h) (Or.inl ⟨by rfl, ?_⟩) hHeld ?_
      · intro w' hSw; go_simp
      try simp only [Act.put, List.getElem_toArray, List.getElem_cons_succ, List.getElem_cons_zero, List.setIfInBounds_toArray, List.set_cons_zero, List.set_cons_succ]
      refine wpAnyH_take (i := 22) (v := .agg #[.slice b3 sy.1.length d3, .slice b4 sy.2.length d4]) rfl (by kernel_rfl) (by kernel_rfl) (by kernel_rfl) (fun _ _ _ h => h) (Or.inl ⟨by rfl, ?_⟩) hHeld ?_
      · intro w' hSw; obtain ⟨k0, k1⟩ := hcl w' hSw; go_simp
      try simp only [Act.put, List.getElem_toArray, List.getElem_cons_succ, List.getElem_cons_zero, List.setIfInBounds_toArray, List.set_cons_zero, List.set_cons_succ]
      refine wpAnyH_take (i := 23) (v := .pointer (some ⟨w7.heap.size, 0, none⟩)) rfl (by kernel_rfl) (by kernel_rfl) (by kernel_rfl) (fun _ _ _ h => h) (Or.inl ⟨by rfl, ?_⟩) hHeld ?_
      · intro w' hSw; go_simp
      try simp only [Act.put, List.getElem_toArray, List.getElem_cons_succ, List.getElem_cons_zero, List.setIfInBounds_toArray, List.set_cons_zero, List.set_cons_succ]
      refine wpAnyH_take (i := 24) (v := .slice a3 sy.1.length c3) rfl (by kernel_rfl) (by kernel_rfl) (by kernel_rfl) (fun _ _ _ h => h) (Or.inl ⟨by rfl, ?_⟩) hHeld ?_
      · intro w' hSw; have kx := (hce w' hSw).2.2.1; go_simp
      try simp only [Act.put, List.getElem_toArray, List.getElem_cons_succ, List.getElem_cons_zero, List.setIfInBounds_toArray, List.set_cons_zero, List.set_cons_succ]
      refine wpAnyH_take (i := 25) (v := .string ⟨sy.1.toArray⟩) rfl (by kernel_rfl) (by kernel_rfl) (by kernel_rfl) (fun _ _ _ h => h) (Or.inl ⟨by rfl, ?_⟩) hHeld ?_
      · intro w' hSw; have kx := (hcv w' hSw).2.2.1; go_simp
      try simp only [Act.put, List.getElem_toArray, List.getElem_cons_succ, List.getElem_cons_zero, List.setIfInBounds_toArray, List.set_cons_zero, List.set_cons_succ]
      refine wpAnyH_take (i := 26) (v := .pointer (some ⟨w7.heap.size, 1, none⟩)) rfl (by kernel_rfl) (by kernel_rfl) (by kernel_rfl) (fun _ _ _ h => h) (Or.inl ⟨by rfl, ?_⟩) hHeld ?_
      · intro w' hSw; go_simp
      try simp only [Act.put, List.getElem_toArray, List.getElem_cons_succ, List.getElem_cons_zero, List.setIfInBounds_toArray, List.set_cons_zero, List.set_cons_succ]
      refine wpAnyH_take (i := 27) (v := .slice a4 sy.2.length c4) rfl (by kernel_rfl) (by kernel_rfl) (by kernel_rfl) (fun _ _ _ h => h) (Or.inl ⟨by rfl, ?_⟩) hHeld ?_
      · intro w' hSw; have kx := (hce w' hSw).2.2.2; go_simp
      try simp only [Act.put, List.getElem_toArray, List.getElem_cons_succ, List.getElem_cons_zero, List.setIfInBounds_toArray, List.set_cons_zero, List.set_cons_succ]
      refine wpAnyH_take (i := 28) (v := .string ⟨sy.2.toArray⟩) rfl (by kernel_rfl) (by kernel_rfl) (by kernel_rfl) (fun _ _ _ h => h) (Or.inl ⟨by rfl, ?_⟩) hHeld ?_
      · intro w' hSw; have kx := (hcv w' hSw).2.2.2.1; go_simp
      try simp only [Act.put, List.getElem_toArray, List.getElem_cons_succ, List.getElem_cons_zero, List.setIfInBounds_toArray, List.set_cons_zero, List.set_cons_succ]
      refine wpAnyH_ready (rs := [29]) (by kernel_rfl) (by simp) ?_
      refine allCall (f := 19) (args := #[.agg #[.slice b3 sy.1.length d3, .slice b4 sy.2.length d4], .bool true, .string ⟨sy.1.toArray⟩, .string ⟨sy.2.toArray⟩]) rfl (by kernel_rfl) ?_ ?_ AllReadyH.nil
      · kernel_rfl
      · refine told_any 0 w8.heap.size _ _ sy.1 sy.2 sy.1 sy.2 true w8.drew (Sl.below Hl0.out (flat_loc _) hd8 (Nat.le_refl _)) (Sl.below Hl1.out (flat_loc _) hd8 (Nat.le_refl _)) hd8.size _ (fun wE hBE => ?_)
        rw [beq_self_eq_true, beq_self_eq_true]
        have hB8E : Below w8.heap.size w8 wE := hd8.trans (hBE.mono hd8.size)
        refine ⟨_, rfl, hB8E, ?_⟩
        have hHeld := hB8E
        try simp only [Act.put, List.getElem_toArray, List.getElem_cons_succ, List.getElem_cons_zero, List.setIfInBounds_toArray, List.set_cons_zero, List.set_cons_succ]
        refine wpAnyH_take (i := 30) (v := .bool false) rfl (by kernel_rfl) (by kernel_rfl) (by kernel_rfl) (fun _ _ _ h => h) (Or.inl ⟨by rfl, ?_⟩) hHeld ?_
        · intro w' hSw; go_simp
        try simp only [Act.put, List.getElem_toArray, List.getElem_cons_succ, List.getElem_cons_zero, List.setIfInBounds_toArray, List.set_cons_zero, List.set_cons_succ]
        refine wpAnyH_take (i := 31) (v := .bool false) rfl (by kernel_rfl) (by kernel_rfl) (by kernel_rfl) (fun _ _ _ h => h) (Or.inl ⟨by rfl, ?_⟩) hHeld ?_
        · intro w' hSw; go_simp
        try simp only [Act.put, List.getElem_toArray, List.getElem_cons_succ, List.getElem_cons_zero, List.setIfInBounds_toArray, List.set_cons_zero, List.set_cons_succ]
        refine wpAnyH_take (i := 32) (v := .bool false) rfl (by kernel_rfl) (by kernel_rfl) (by kernel_rfl) (fun _ _ _ h => h) (Or.inl ⟨by rfl, ?_⟩) hHeld ?_
        · intro w' hSw; go_simp
        try simp only [Act.put, List.getElem_toArray, List.getElem_cons_succ, List.getElem_cons_zero, List.setIfInBounds_toArray, List.set_cons_zero, List.set_cons_succ]
        refine wpAnyH_done (by kernel_rfl) ?_ _
        obtain ⟨v1, v2, v3, v4, v5⟩ := hcv wE hB8E
        obtain ⟨e1, e2, e3, e4⟩ := hce wE hB8E
        have hr := HR.out wE (HB8.out.trans (hB8E.mono HB8.out.size))
        clear hHeld

        go_wp2_with fail
        first | exact hr | exact fin hr rfl
    · have hh0 : ¬ (0 < high.length) := by rw [hH]; exact Nat.lt_irrefl _
      clear hH
      have hL0 : ¬ (0 < low.length) := by rw [hL]; exact Nat.lt_irrefl _
      clear hL
      go_wp2_with fail
      generalize w7.alloc (.cells #[.slice a3 sy.1.length c3, .slice a4 sy.2.length c4] 43) = w8 at *
      obtain ⟨s0, s1⟩ := Hbs8.out.cells.c2
      obtain ⟨y0, y1⟩ := Hby.out.cells.c2
      have hcv : ∀ w', Below w8.heap.size w8 w' → (convert 30 9 (.slice a1 sx.1.length c1)).run Try.prog w' = .ok (.string ⟨sx.1.toArray⟩) w' ∧ (convert 30 9 (.slice a2 sx.2.length c2)).run Try.prog w' = .ok (.string ⟨sx.2.toArray⟩) w' ∧ (convert 30 9 (.slice a3 sy.1.length c3)).run Try.prog w' = .ok (.string ⟨sy.1.toArray⟩) w' ∧ (convert 30 9 (.slice a4 sy.2.length c4)).run Try.prog w' = .ok (.string ⟨sy.2.toArray⟩) w' ∧ (convert 30 9 (.slice ak key.length ck)).run Try.prog w' = .ok (.string ⟨key.toArray⟩) w' := fun w' h =>
        ⟨str (Sl.below Hx18.out (flat_loc _) h (Nat.le_refl _)), str (Sl.below Hx28.out (flat_loc _) h (Nat.le_refl _)), str (Sl.below Hy1.out (flat_loc _) h (Nat.le_refl _)), str (Sl.below Hy2.out (flat_loc _) h (Nat.le_refl _)), str (Sl.below Hk8.out (flat_loc _) h hhi8)⟩
      have hce : ∀ w', Below w8.heap.size w8 w' → w'.cell? ⟨w5.heap.size, 0, none⟩ = some (.slice a1 sx.1.length c1) ∧ w'.cell? ⟨w5.heap.size, 1, none⟩ = some (.slice a2 sx.2.length c2) ∧ w'.cell? ⟨w7.heap.size, 0, none⟩ = some (.slice a3 sy.1.length c3) ∧ w'.cell? ⟨w7.heap.size, 1, none⟩ = some (.slice a4 sy.2.length c4) := fun w' h =>
        ⟨(World.cell?_of_block (h.block _ hs58)).trans s0, (World.cell?_of_block (h.block _ hs58)).trans s1, (World.cell?_of_block (h.block _ hs78)).trans y0, (World.cell?_of_block (h.block _ hs78)).trans y1⟩
      clear s0 s1 y0 y1
      have hd8 : Below w8.heap.size w8 w8.drew := Below.drew (Below.refl _ _)
      refine wp_region_held_drew (S := fun w' => Below w8.heap.size w8 w') (by kernel_rfl) hd8 (fun hHeld => ?_)
      refine wpAnyH_take (i := 0) (v := .bool false) rfl (by kernel_rfl) (by kernel_rfl) (by kernel_rfl) (fun _ _ _ h => h) (Or.inl ⟨by rfl, ?_⟩) hHeld ?_
      · intro w' hSw; go_simp
      try simp only [Act.put, List.getElem_toArray, List.getElem_cons_succ, List.getElem_cons_zero, List.setIfInBounds_toArray, List.set_cons_zero, List.set_cons_succ]
      refine wpAnyH_take (i := 1) (v := .bool false) rfl (by kernel_rfl) (by kernel_rfl) (by kernel_rfl) (fun _ _ _ h => h) (Or.inl ⟨by rfl, ?_⟩) hHeld ?_
      · intro w' hSw; go_simp
      try simp only [Act.put, List.getElem_toArray, List.getElem_cons_succ, List.getElem_cons_zero, List.setIfInBounds_toArray, List.set_cons_zero, List.set_cons_succ]
      refine wpAnyH_take (i := 2) (v := undef) rfl (by kernel_rfl) (by kernel_rfl) (by kernel_rfl) (fun _ _ _ h => h) (Or.inr ⟨by kernel_rfl, rfl⟩) hHeld ?_
      try simp only [Act.put, List.getElem_toArray, List.getElem_cons_succ, List.getElem_cons_zero, List.setIfInBounds_toArray, List.set_cons_zero, List.set_cons_succ]
      refine wpAnyH_take (i := 3) (v := undef) rfl (by kernel_rfl) (by kernel_rfl) (by kernel_rfl) (fun _ _ _ h => h) (Or.inr ⟨by kernel_rfl, rfl⟩) hHeld ?_
      try simp only [Act.put, List.getElem_toArray, List.getElem_cons_succ, List.getElem_cons_zero, List.setIfInBounds_toArray, List.set_cons_zero, List.set_cons_succ]
      refine wpAnyH_take (i := 4) (v := undef) rfl (by kernel_rfl) (by kernel_rfl) (by kernel_rfl) (fun _ _ _ h => h) (Or.inr ⟨by kernel_rfl, rfl⟩) hHeld ?_
      try simp only [Act.put, List.getElem_toArray, List.getElem_cons_succ, List.getElem_cons_zero, List.setIfInBounds_toArray, List.set_cons_zero, List.set_cons_succ]
      refine wpAnyH_take (i := 5) (v := undef) rfl (by kernel_rfl) (by kernel_rfl) (by kernel_rfl) (fun _ _ _ h => h) (Or.inr ⟨by kernel_rfl, rfl⟩) hHeld ?_
      try simp only [Act.put, List.getElem_toArray, List.getElem_cons_succ, List.getElem_cons_zero, List.setIfInBounds_toArray, List.set_cons_zero, List.set_cons_succ]
      refine wpAnyH_take (i := 6) (v := undef) rfl (by kernel_rfl) (by kernel_rfl) (by kernel_rfl) (fun _ _ _ h => h) (Or.inr ⟨by kernel_rfl, rfl⟩) hHeld ?_
      try simp only [Act.put, List.getElem_toArray, List.getElem_cons_succ, List.getElem_cons_zero, List.setIfInBounds_toArray, List.set_cons_zero, List.set_cons_succ]
      refine wpAnyH_take (i := 7) (v := undef) rfl (by kernel_rfl) (by kernel_rfl) (by kernel_rfl) (fun _ _ _ h => h) (Or.inr ⟨by kernel_rfl, rfl⟩) hHeld ?_
      try simp only [Act.put, List.getElem_toArray, List.getElem_cons_succ, List.getElem_cons_zero, List.setIfInBounds_toArray, List.set_cons_zero, List.set_cons_succ]
      refine wpAnyH_take (i := 8) (v := undef) rfl (by kernel_rfl) (by kernel_rfl) (by kernel_rfl) (fun _ _ _ h => h) (Or.inr ⟨by kernel_rfl, rfl⟩) hHeld ?_
      try simp only [Act.put, List.getElem_toArray, List.getElem_cons_succ, List.getElem_cons_zero, List.setIfInBounds_toArray, List.set_cons_zero, List.set_cons_succ]
      refine wpAnyH_take (i := 9) (v := undef) rfl (by kernel_rfl) (by kernel_rfl) (by kernel_rfl) (fun _ _ _ h => h) (Or.inr ⟨by kernel_rfl, rfl⟩) hHeld ?_
      try simp only [Act.put, List.getElem_toArray, List.getElem_cons_succ, List.getElem_cons_zero, List.setIfInBounds_toArray, List.set_cons_zero, List.set_cons_succ]
      refine wpAnyH_take (i := 10) (v := undef) rfl (by kernel_rfl) (by kernel_rfl) (by kernel_rfl) (fun _ _ _ h => h) (Or.inr ⟨by kernel_rfl, rfl⟩) hHeld ?_
      try simp only [Act.put, List.getElem_toArray, List.getElem_cons_succ, List.getElem_cons_zero, List.setIfInBounds_toArray, List.set_cons_zero, List.set_cons_succ]
      refine wpAnyH_take (i := 11) (v := undef) rfl (by kernel_rfl) (by kernel_rfl) (by kernel_rfl) (fun _ _ _ h => h) (Or.inr ⟨by kernel_rfl, rfl⟩) hHeld ?_
      try simp only [Act.put, List.getElem_toArray, List.getElem_cons_succ, List.getElem_cons_zero, List.setIfInBounds_toArray, List.set_cons_zero, List.set_cons_succ]
      refine wpAnyH_take (i := 12) (v := undef) rfl (by kernel_rfl) (by kernel_rfl) (by kernel_rfl) (fun _ _ _ h => h) (Or.inr ⟨by kernel_rfl, rfl⟩) hHeld ?_
      try simp only [Act.put, List.getElem_toArray, List.getElem_cons_succ, List.getElem_cons_zero, List.setIfInBounds_toArray, List.set_cons_zero, List.set_cons_succ]
      refine wpAnyH_take (i := 13) (v := .bool false) rfl (by kernel_rfl) (by kernel_rfl) (by kernel_rfl) (fun _ _ _ h => h) (Or.inl ⟨by rfl, ?_⟩) hHeld ?_
      · intro w' hSw; go_simp
      try simp only [Act.put, List.getElem_toArray, List.getElem_cons_succ, List.getElem_cons_zero, List.setIfInBounds_toArray, List.set_cons_zero, List.set_cons_succ]
      refine wpAnyH_take (i := 14) (v := .bool false) rfl (by kernel_rfl) (by kernel_rfl) (by kernel_rfl) (fun _ _ _ h => h) (Or.inl ⟨by rfl, ?_⟩) hHeld ?_
      · intro w' hSw; go_simp
      try simp only [Act.put, List.getElem_toArray, List.getElem_cons_succ, List.getElem_cons_zero, List.setIfInBounds_toArray, List.set_cons_zero, List.set_cons_succ]
      refine wpAnyH_take (i := 15) (v := .bool false) rfl (by kernel_rfl) (by kernel_rfl) (by kernel_rfl) (fun _ _ _ h => h) (Or.inl ⟨by rfl, ?_⟩) hHeld ?_
      · intro w' hSw; go_simp
      try simp only [Act.put, List.getElem_toArray, List.getElem_cons_succ, List.getElem_cons_zero, List.setIfInBounds_toArray, List.set_cons_zero, List.set_cons_succ]
      refine wpAnyH_take (i := 16) (v := .bool false) rfl (by kernel_rfl) (by kernel_rfl) (by kernel_rfl) (fun _ _ _ h => h) (Or.inl ⟨by rfl, ?_⟩) hHeld ?_
      · intro w' hSw; go_simp
      try simp only [Act.put, List.getElem_toArray, List.getElem_cons_succ, List.getElem_cons_zero, List.setIfInBounds_toArray, List.set_cons_zero, List.set_cons_succ]
      refine wpAnyH_take (i := 17) (v := undef) rfl (by kernel_rfl) (by kernel_rfl) (by kernel_rfl) (fun _ _ _ h => h) (Or.inr ⟨by kernel_rfl, rfl⟩) hHeld ?_
      try simp only [Act.put, List.getElem_toArray, List.getElem_cons_succ, List.getElem_cons_zero, List.setIfInBounds_toArray, List.set_cons_zero, List.set_cons_succ]
      refine wpAnyH_take (i := 18) (v := undef) rfl (by kernel_rfl) (by kernel_rfl) (by kernel_rfl) (fun _ _ _ h => h) (Or.inr ⟨by kernel_rfl, rfl⟩) hHeld ?_
      try simp only [Act.put, List.getElem_toArray, List.getElem_cons_succ, List.getElem_cons_zero, List.setIfInBounds_toArray, List.set_cons_zero, List.set_cons_succ]
      refine wpAnyH_take (i := 19) (v := undef) rfl (by kernel_rfl) (by kernel_rfl) (by kernel_rfl) (fun _ _ _ h => h) (Or.inr ⟨by kernel_rfl, rfl⟩) hHeld ?_
      try simp only [Act.put, List.getElem_toArray, List.getElem_cons_succ, List.getElem_cons_zero, List.setIfInBounds_toArray, List.set_cons_zero, List.set_cons_succ]
      refine wpAnyH_take (i := 20) (v := undef) rfl (by kernel_rfl) (by kernel_rfl) (by kernel_rfl) (fun _ _ _ h => h) (Or.inr ⟨by kernel_rfl, rfl⟩) hHeld ?_
      try simp only [Act.put, List.getElem_toArray, List.getElem_cons_succ, List.getElem_cons_zero, List.setIfInBounds_toArray, List.set_cons_zero, List.set_cons_succ]
      refine wpAnyH_take (i := 21) (v := undef) rfl (by kernel_rfl) (by kernel_rfl) (by kernel_rfl) (fun _ _ _ h => h) (Or.inr ⟨by kernel_rfl, rfl⟩) hHeld ?_
      try simp only [Act.put, List.getElem_toArray, List.getElem_cons_succ, List.getElem_cons_zero, List.setIfInBounds_toArray, List.set_cons_zero, List.set_cons_succ]
      refine wpAnyH_take (i := 22) (v := undef) rfl (by kernel_rfl) (by kernel_rfl) (by kernel_rfl) (fun _ _ _ h => h) (Or.inr ⟨by kernel_rfl, rfl⟩) hHeld ?_
      try simp only [Act.put, List.getElem_toArray, List.getElem_cons_succ, List.getElem_cons_zero, List.setIfInBounds_toArray, List.set_cons_zero, List.set_cons_succ]
      refine wpAnyH_take (i := 23) (v := undef) rfl (by kernel_rfl) (by kernel_rfl) (by kernel_rfl) (fun _ _ _ h => h) (Or.inr ⟨by kernel_rfl, rfl⟩) hHeld ?_
      try simp only [Act.put, List.getElem_toArray, List.getElem_cons_succ, List.getElem_cons_zero, List.setIfInBounds_toArray, List.set_cons_zero, List.set_cons_succ]
      refine wpAnyH_take (i := 24) (v := undef) rfl (by kernel_rfl) (by kernel_rfl) (by kernel_rfl) (fun _ _ _ h => h) (Or.inr ⟨by kernel_rfl, rfl⟩) hHeld ?_
      try simp only [Act.put, List.getElem_toArray, List.getElem_cons_succ, List.getElem_cons_zero, List.setIfInBounds_toArray, List.set_cons_zero, List.set_cons_succ]
      refine wpAnyH_take (i := 25) (v := undef) rfl (by kernel_rfl) (by kernel_rfl) (by kernel_rfl) (fun _ _ _ h => h) (Or.inr ⟨by kernel_rfl, rfl⟩) hHeld ?_
      try simp only [Act.put, List.getElem_toArray, List.getElem_cons_succ, List.getElem_cons_zero, List.setIfInBounds_toArray, List.set_cons_zero, List.set_cons_succ]
      refine wpAnyH_take (i := 26) (v := undef) rfl (by kernel_rfl) (by kernel_rfl) (by kernel_rfl) (fun _ _ _ h => h) (Or.inr ⟨by kernel_rfl, rfl⟩) hHeld ?_
      try simp only [Act.put, List.getElem_toArray, List.getElem_cons_succ, List.getElem_cons_zero, List.setIfInBounds_toArray, List.set_cons_zero, List.set_cons_succ]
      refine wpAnyH_take (i := 27) (v := undef) rfl (by kernel_rfl) (by kernel_rfl) (by kernel_rfl) (fun _ _ _ h => h) (Or.inr ⟨by kernel_rfl, rfl⟩) hHeld ?_
      try simp only [Act.put, List.getElem_toArray, List.getElem_cons_succ, List.getElem_cons_zero, List.setIfInBounds_toArray, List.set_cons_zero, List.set_cons_succ]
      refine wpAnyH_take (i := 28) (v := undef) rfl (by kernel_rfl) (by kernel_rfl) (by kernel_rfl) (fun _ _ _ h => h) (Or.inr ⟨by kernel_rfl, rfl⟩) hHeld ?_
      try simp only [Act.put, List.getElem_toArray, List.getElem_cons_succ, List.getElem_cons_zero, List.setIfInBounds_toArray, List.set_cons_zero, List.set_cons_succ]
      refine wpAnyH_take (i := 29) (v := undef) rfl (by kernel_rfl) (by kernel_rfl) (by kernel_rfl) (fun _ _ _ h => h) (Or.inr ⟨by kernel_rfl, rfl⟩) hHeld ?_
      try simp only [Act.put, List.getElem_toArray, List.getElem_cons_succ, List.getElem_cons_zero, List.setIfInBounds_toArray, List.set_cons_zero, List.set_cons_succ]
      refine wpAnyH_take (i := 30) (v := undef) rfl (by kernel_rfl) (by kernel_rfl) (by kernel_rfl) (fun _ _ _ h => h) (Or.inr ⟨by kernel_rfl, rfl⟩) hHeld ?_
      try simp only [Act.put, List.getElem_toArray, List.getElem_cons_succ, List.getElem_cons_zero, List.setIfInBounds_toArray, List.set_cons_zero, List.set_cons_succ]
      refine wpAnyH_take (i := 31) (v := .bool false) rfl (by kernel_rfl) (by kernel_rfl) (by kernel_rfl) (fun _ _ _ h => h) (Or.inl ⟨by rfl, ?_⟩) hHeld ?_
      · intro w' hSw; go_simp
      try simp only [Act.put, List.getElem_toArray, List.getElem_cons_succ, List.getElem_cons_zero, List.setIfInBounds_toArray, List.set_cons_zero, List.set_cons_succ]
      refine wpAnyH_take (i := 32) (v := .bool false) rfl (by kernel_rfl) (by kernel_rfl) (by kernel_rfl) (fun _ _ _ h => h) (Or.inl ⟨by rfl, ?_⟩) hHeld ?_
      · intro w' hSw; go_simp
      try simp only [Act.put, List.getElem_toArray, List.getElem_cons_succ, List.getElem_cons_zero, List.setIfInBounds_toArray, List.set_cons_zero, List.set_cons_succ]
      refine wpAnyH_done (by kernel_rfl) ?_ _
      obtain ⟨v1, v2, v3, v4, v5⟩ := hcv w8.drew hd8
      obtain ⟨e1, e2, e3, e4⟩ := hce w8.drew hd8
      have hr := HR.out w8.drew (HB8.out.trans (hd8.mono HB8.out.size))
      clear hHeld

      go_wp2_with fail
      first | exact hr | exact fin hr rfl
end Go.Proofs.Ytmlcnfomiemdpaa
