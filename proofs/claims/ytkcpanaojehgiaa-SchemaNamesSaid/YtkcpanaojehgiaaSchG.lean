/- schema.twice, schema.Of. -/
import Derived.Test.YtkcpanaojehgiaaSchF
import Derived.Maps.Views
import Derived.Maps.OwnSet
namespace Go.Proofs.Ytkcpanaojehgiaa
open Go.RowKit Go.ChangeMaps Go.WideMaps Go.Maps
set_option linter.unusedVariables false
set_option linter.unusedSimpArgs false

instance instAttr : Inhabited Attr := ⟨⟨0, [], 0, false, 0, false, false⟩⟩
theorem lawS : Maps.Keyed Try.prog 9 := Maps.string_keyed Try.underlying9
theorem keyS (s : List UInt8) : WideAt.IsKeyLit (.string s) := trivial
theorem zeroInt (w : World) : (zeroValue 3).run Try.prog w = .ok (.int .i64 0) w := by kernel_rfl
/-- Is a text among the first k names? -/
def seenN (l : List Attr) (k : Nat) (s : List UInt8) : Bool := ((l.take k).map (·.name)).contains s
def twiceB (l : List Attr) : Bool := (List.range l.length).any fun i => seenN l i (l.getD i default).name
theorem seenN_succ (l : List Attr) (k : Nat) (h : k < l.length) (s : List UInt8) : seenN l (k + 1) s = (seenN l k s || l[k].name == s) := by
  unfold seenN
  rw [List.take_succ_eq_append_getElem h, List.map_append]
  rw [Bool.eq_iff_iff]
  simp only [List.contains_eq_mem, List.mem_append, List.map_cons, List.map_nil, List.mem_singleton, decide_eq_true_eq, Bool.or_eq_true, beq_iff_eq]
  constructor
  · rintro (h | h)
    · exact .inl h
    · exact .inr h.symm
  · rintro (h | h)
    · exact .inl h
    · exact .inr h.symm
theorem twice_no {l : List Attr} (h : ∀ i, i < l.length → seenN l i (l.getD i default).name = false) : twiceB l = false := by
  unfold twiceB
  rw [List.any_eq_false]
  intro i hi
  simp only [h i (List.mem_range.1 hi), Bool.not_eq_true]
theorem twice_yes {l : List Attr} {k : Nat} (hk : k < l.length) (h : seenN l k (l.getD k default).name = true) : twiceB l = true := by
  unfold twiceB
  rw [List.any_eq_true]
  exact ⟨k, List.mem_range.2 hk, h⟩
set_option maxRecDepth 100000 in
set_option maxHeartbeats 4000000 in
theorem twice_any (lo hi : Nat) (l : List Attr) (v : Value) (w : World) (hv : Attrs lo hi w v l) (hhi : hi ≤ w.heap.size) (hlen : l.length ≤ 1000000000000000) (hn : ∀ a ∈ l, a.name.length ≤ 9223372036854775807) (R : Ending → World → Prop)
    (hR : ∀ w', Below w.heap.size w w' → R (.returned (.bool (twiceB l))) w') : Calls Try.prog 34 #[v] w R := by
  have hmm := @run_makeMap Try.prog
  have Hv := Lib.hid hv
  have HR := Lib.hid hR
  have Hn := Lib.hid hn
  obtain ⟨ao, cap, rfl, -, -, -, -⟩ := hv.form
  clear hv hR hn
  go_enter Try.func34, Try.ntmps34
  go_wp2_with fail
  go_loopw [5, 9] (fun _ t9 wr => ∃ (k : Nat) (D : DataW Unit), k ≤ l.length ∧ t9 = .int .i64 k ∧ wr.ownsMap Try.prog 9 (plainElem Try.prog 3) w.heap.size k D ∧ Maps.IsMap D ∧ (∀ s, D.atKey (.string s) (.lit (.int .i64 0)) = .lit (.int .i64 (if seenN l k s then 1 else 0))) ∧ (∀ i, i < k → seenN l i (l.getD i default).name = false) ∧ Below w.heap.size w wr)
    (fun _ t9 _ => l.length - (intOf t9).toNat)
  case atStart => exact ⟨0, .map [], Nat.zero_le _, rfl, World.ownsMap_made _ _ _ _, Maps.isMap_empty, fun s => rfl, fun i h => absurd h (Nat.not_lt_zero _), alloc_below _ _⟩
  case round =>
    obtain ⟨k, D, hk, rfl, hown, hmap, hat, hc1, hB⟩ := hrel
    obtain ⟨wo, ewo⟩ : ∃ x, x = wr := ⟨_, rfl⟩
    subst ewo
    have HB := Lib.hid hB
    have Hmap := Lib.hid hmap
    have Hat := Lib.hid hat
    have Hc1 := Lib.hid hc1
    have hz := hB.size
    clear hmap hat hc1
    by_cases hlt : k < l.length
    · obtain ⟨ao', cap', e', -, -, -, hc⟩ := (Sl.below Hv.out Attrs.loc hB hhi).form
      injection e' with e1 e2 e3
      subst e1 e3
      obtain ⟨b, off, rfl, hb1, hb2, hcc⟩ := hc k hlt
      obtain ⟨cs, _, hcs, rfl⟩ := hcc k hlt
      obtain ⟨h0, h1, h2, h3, h4, h5, h6⟩ := hcs.c7
      have hbw : b < wo.heap.size := by omega
      have hxl := Hn.out l[k] (List.getElem_mem hlt)
      have Hst : Hid (∀ s, seenN l (k + 1) s = (seenN l k s || l[k].name == s)) := Lib.hid (seenN_succ l k hlt)
      have Hx : Hid (l.getD k default = l[k]) := Lib.hid (getD_at l _ k hlt)
      have kk0 : (0 : Int) ≤ (k : Int) := by omega
      have kkl : (k : Int) < (l.length : Int) := by omega
      clear hcs hB hc hcc
      generalize hx : l[k] = x at *
      clear hx
      obtain ⟨aid, aname, atype, amany, aunique, apart, aindex⟩ := x
      simp only at hxl h0 h1 h2 h3 h4 h5 h6
      have hkey : keyOf Try.prog 9 (.string ⟨aname.toArray⟩) = some (.string aname) := keyOf_string_mk Try.underlying9 (by simp only [maxLen, ByteArray.size, List.size_toArray]; exact hxl)
      have Hown := Lib.hid hown
      have HBa := Lib.hid (fun o => alloc_below wo o)
      have hal := alloc_below wo (.cells #[.int .i64 aid, .string ⟨aname.toArray⟩, .int .i64 atype, .bool amany, .int .i64 aunique, .bool apart, .bool aindex] 24)
      have hbk := Blk.new wo [.int .i64 aid, .string ⟨aname.toArray⟩, .int .i64 atype, .bool amany, .int .i64 aunique, .bool apart, .bool aindex] 24 rfl
      have hown2 := hown.alloc (.cells #[.int .i64 aid, .string ⟨aname.toArray⟩, .int .i64 atype, .bool amany, .int .i64 aunique, .bool apart, .bool aindex] 24)
      clear hown
      go_upto_region 5 with fail
      generalize wo.alloc (.cells #[.int .i64 aid, .string ⟨aname.toArray⟩, .int .i64 atype, .bool amany, .int .i64 aunique, .bool apart, .bool aindex] 24) = wa at *
      obtain ⟨y0, y1, y2, y3, y4, y5, y6⟩ := hbk.cells.c7
      have HBw := Lib.hid (HB.out.trans (hal.mono hz))
      have hwb := hown2.lt
      have hbl := hbk.lt
      obtain ⟨c, hrun, hatc, -⟩ := hown2.lookup_int lawS Try.underlying84 Try.underlying3 (zeroInt _) hkey
      have hc0 := hatc.symm.trans (Hat.out aname)
      injection hc0 with hc0
      injection hc0 with _ hc0
      have Hbk := Lib.hid hbk
      clear hal hatc h0 h1 h2 h3 h4 h5 h6 hbk
      have hkl : k < maxLen := by simp only [maxLen]; omega
      have hne : wo.heap.size ≠ w.heap.size := by have := Hown.out.lt; omega
      have wf2 : (Lit.int .i64 2).wf = true := by decide
      have wf1 : (Lit.int .i64 1).wf = true := by decide
      have HO2 := Lib.hid hown2
      cases hse : seenN l k aname
      ·
        rw [hse] at hc0
        obtain rfl : c = 0 := hc0
        go_wp2_with (first | (at_mapUpdate; refine wpList_mapUpdate_own _ rfl _ _ _ 84 rfl 9 3 lawS Try.underlying84 _ w.heap.size k D rfl hown2 hkl _ _ _ rfl rfl hkey _ [] (plainElem_int Try.underlying3 wf1) ?_) | go_in)
        intro w3 hown3 hgrow
        have z1 : w3.cell? ⟨wo.heap.size, 1, none⟩ = some (.string ⟨aname.toArray⟩) := (World.cell?_of_block (hgrow.block _ hbl (by intro e; injection e with e; exact hne e))).trans y1
        obtain ⟨c2, hrun2, hat2, -⟩ := hown3.lookup_int lawS Try.underlying84 Try.underlying3 (zeroInt _) hkey
        have hc2 := hat2.symm.trans (atKey_put_same Hmap.out (keyS _) _ _)
        injection hc2 with hc2
        injection hc2 with _ hc2
        obtain rfl : c2 = 1 := hc2
        have HB3 := Lib.hid (HBw.out.grown hgrow HBw.out.size (fun j hj => by injection hj with hj; omega))
        have Hown3 := Lib.hid hown3
        clear hown3 hown2 hat2 hgrow hrun y0 y1 y2 y3 y4 y5 y6
        go_wp2_with fail
        go_roundw
        case rel => exact ⟨k + 1, _, by omega, by go_num, Hown3.out, Hmap.out.put _ _, fun s => by
          rw [Hst.out s]
          by_cases e : s = aname
          · subst e
            rw [atKey_put_same Hmap.out (keyS _)]
            simp
          · rw [atKey_put_other (fun e2 => e (by injection e2)), Hat.out s]
            simp [Ne.symm e], fun i hi => by
          by_cases e : i = k
          · subst e; rw [Hx.out]; exact hse
          · exact Hc1.out i (by omega), HB3.out⟩
        case measure => simp [intOf]; omega
      ·
        rw [hse] at hc0
        obtain rfl : c = 1 := hc0
        go_wp2_with (first | (at_mapUpdate; refine wpList_mapUpdate_own _ rfl _ _ _ 84 rfl 9 3 lawS Try.underlying84 _ w.heap.size k D rfl hown2 hkl _ _ _ rfl rfl hkey _ [] (plainElem_int Try.underlying3 wf2) ?_) | go_in)
        intro w3 hown3 hgrow
        have z1 : w3.cell? ⟨wo.heap.size, 1, none⟩ = some (.string ⟨aname.toArray⟩) := (World.cell?_of_block (hgrow.block _ hbl (by intro e; injection e with e; exact hne e))).trans y1
        obtain ⟨c2, hrun2, hat2, -⟩ := hown3.lookup_int lawS Try.underlying84 Try.underlying3 (zeroInt _) hkey
        have hc2 := hat2.symm.trans (atKey_put_same Hmap.out (keyS _) _ _)
        injection hc2 with hc2
        injection hc2 with _ hc2
        obtain rfl : c2 = 2 := hc2
        have HB3 := Lib.hid (HBw.out.grown hgrow HBw.out.size (fun j hj => by injection hj with hj; omega))
        have Hown3 := Lib.hid hown3
        clear hown3 hown2 hat2 hgrow hrun y0 y1 y2 y3 y4 y5 y6
        go_wp2_with fail
        exact fin (HR.out w3 HB3.out) (show Value.bool _ = Value.bool _ by rw [twice_yes hlt (by rw [Hx.out]; exact hse)])
    · obtain rfl : k = l.length := by omega
      have hr := HR.out wo HB.out
      rw [twice_no Hc1.out] at hr
      clear hown hB
      go_wp2_with fail
      first | exact hr | exact fin hr rfl
theorem madeO_len {e : Int} {g : List Ft} {a : Attr} (h : madeO e g = some a) (hl : ∀ x ∈ g, x.v.s.length ≤ 9223372036854775807) : a.name.length ≤ 9223372036854775807 := by
  unfold madeO at h
  rcases hn : vals g 1 with _ | ⟨n, _ | ⟨n2, ns⟩⟩
  · rw [hn] at h; cases h
  · rcases ht : vals g 2 with _ | ⟨t, _ | ⟨t2, ts⟩⟩
    · rw [hn, ht] at h; cases h
    · rw [hn, ht] at h
      simp only at h
      split at h
      · injection h with h
        rw [← h]
        have : n ∈ vals g 1 := by rw [hn]; simp
        obtain ⟨x, hx, rfl⟩ := List.mem_map.1 this
        exact hl x (List.mem_filter.1 hx).1
      · cases h
    · rw [hn, ht] at h; cases h
  · rw [hn] at h; cases h
theorem attrsOf_len {l : List Ft} (hl : ∀ x ∈ l, x.v.s.length ≤ 9223372036854775807) : ∀ a ∈ attrsOf l, a.name.length ≤ 9223372036854775807 := by
  intro a ha
  rcases List.mem_append.1 ha with h | h
  · simp only [builtinL, List.mem_cons, List.not_mem_nil, or_false] at h
    rcases h with rfl | rfl | rfl | rfl | rfl | rfl | rfl <;> decide
  · obtain ⟨i, -, hi⟩ := List.mem_filterMap.1 h
    unfold firstO at hi
    split at hi
    · cases hi
    · exact madeO_len hi (fun x hx => hl x (List.mem_filter.1 hx).1)
theorem attrsOf_count (l : List Ft) : (attrsOf l).length ≤ l.length + 7 := by
  have := ofTo_len l l.length
  unfold attrsOf
  rw [List.length_append]
  simp only [builtinL, List.length_cons, List.length_nil]
  omega
/-- schema.Of's word: the error, and the attributes if there is none. -/
def ofErr (l : List Ft) : Int := if factsB l then (if twiceB (attrsOf l) then 70 else 0) else 60
def ofAttrs (l : List Ft) : List Attr := if ofErr l = 0 then attrsOf l else []
theorem OwnA.lower {lo lo' : Nat} {w : World} {v : Value} {xs : List Attr} (h : OwnA lo w v xs) (hl : lo' ≤ lo) : OwnA lo' w v xs :=
  ⟨h.1, h.2.imp id fun ⟨g, cap, cur, e1, h1, h2⟩ => ⟨g, cap, cur, e1, Nat.le_trans hl h1, h2⟩⟩
theorem Own.toNil {α : Type} (enc : α → List Value) (e : TypeId) (size lo : Nat) (w : World) : Own enc e size lo w (.slice none 0 0) ([] : List α) := Own.nil enc e size lo w
set_option maxRecDepth 100000 in
set_option maxHeartbeats 2000000 in
theorem Of_any (lo hi : Nat) (l : List Ft) (v : Value) (w : World) (hv : Fts lo hi w v l) (hhi : hi ≤ w.heap.size) (hlen : l.length ≤ 2000000000000) (hl : ∀ x ∈ l, x.v.s.length ≤ 9223372036854775807) (R : Ending → World → Prop)
    (hR : ∀ w' v', Below w.heap.size w w' → OwnA w.heap.size w' v' (ofAttrs l) → R (.returned (.tuple #[v', .int .i64 (ofErr l)])) w') : Calls Try.prog 12 #[v] w R := by
  have HR := Lib.hid hR
  have Hv := Lib.hid hv
  have Hl := Lib.hid hl
  obtain ⟨av, cv, rfl, -, -, -, -⟩ := hv.form
  clear hR hv hl
  go_enter Try.func12, Try.ntmps12
  go_wp2_with fail
  refine fCheck_any lo hi l _ w Hv.out hhi Hl.out _ (fun w1 hB1 => ?_)
  have HB1 := Lib.hid hB1
  have hz1 := hB1.size
  clear hB1
  cases hok : factsB l
  · have he : ofErr l = 60 := by simp [ofErr, hok]
    have hr := HR.out w1 (.slice none 0 0) HB1.out (by unfold ofAttrs; rw [he]; exact Own.nil _ _ _ _ _)
    rw [he] at hr
    clear he
    go_wp2_with fail
    first | exact hr | exact fin hr rfl
  · go_wp2_with fail
    refine of_any lo hi l _ w1 (Sl.below Hv.out ftE_loc HB1.out hhi) (by omega) hlen hok _ (fun w2 v2 hB2 ho2 => ?_)
    have HB2 := Lib.hid (HB1.out.trans (hB2.mono hz1))
    have Ho2 := Lib.hid ho2
    obtain ⟨p2, c2, rfl⟩ := Own.slice ho2
    have hz2 := hB2.size
    clear hB2 ho2
    have hcn := attrsOf_count l
    have Hal := Lib.hid (attrsOf_len Hl.out)
    go_wp2_with fail
    refine twice_any w1.heap.size w2.heap.size (attrsOf l) _ w2 Ho2.out.attrs (Nat.le_refl _) (by omega) Hal.out _ (fun w3 hB3 => ?_)
    have Ho3 := Lib.hid (Own.kept Ho2.out hB3)
    have HB3 := Lib.hid (HB2.out.trans (hB3.mono HB2.out.size))
    clear hB3
    cases htw : twiceB (attrsOf l)
    · have he : ofErr l = 0 := by simp [ofErr, hok, htw]
      have hr := HR.out w3 _ HB3.out (by unfold ofAttrs; rw [he, if_pos rfl]; exact OwnA.lower Ho3.out hz1)
      rw [he] at hr
      clear he
      go_wp2_with fail
      first | exact hr | exact fin hr rfl
    · have he : ofErr l = 70 := by simp [ofErr, hok, htw]
      have hr := HR.out w3 (.slice none 0 0) HB3.out (by unfold ofAttrs; rw [he]; exact Own.nil _ _ _ _ _)
      rw [he] at hr
      clear he
      go_wp2_with fail
      first | exact hr | exact fin hr rfl
end Go.Proofs.Ytkcpanaojehgiaa
