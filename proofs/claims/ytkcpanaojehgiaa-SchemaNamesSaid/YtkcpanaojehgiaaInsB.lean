/- Facts of a call's own: few, alive. -/
import Derived.Test.YtkcpanaojehgiaaInsA
import Derived.Deep.Slices
namespace Go.Proofs.Ytkcpanaojehgiaa
open Go.RowKit
set_option linter.unusedVariables false
set_option linter.unusedSimpArgs false

/-- A fact, and the slice that its spans are. -/
structure FR where
  x : Ft
  a : Option Addr
  n : Nat
  c : Nat
  deriving Inhabited
def FR.sl (p : FR) : Value := .slice p.a p.n p.c
def FR.enc (p : FR) : List Value := [.int .i64 p.x.e, .int .i64 p.x.a, .int .i64 p.x.v.kind, .int .i64 p.x.v.n, .string ⟨p.x.v.s.toArray⟩, .slice p.a p.n p.c]
abbrev OwnFR := Own FR.enc 49 6
theorem infoF : (Try.prog.info? 49).map (fun i => (i.zero, i.size, i.bytes)) = some (some (.agg #[.int .i64 0, .int .i64 0, .int .i64 0, .int .i64 0, .string ⟨#[]⟩, .slice none 0 0]), 6, 72) := by kernel_rfl
theorem FR.one : ∀ x : FR, ∀ u ∈ FR.enc x, u.oneCell' = true := fun x u hu => by
  simp only [FR.enc, List.mem_cons, List.not_mem_nil, or_false] at hu
  rcases hu with rfl | rfl | rfl | rfl | rfl | rfl <;> rfl
theorem fts_raw {lo hi : Nat} {w : World} {v : Value} {xs : List Ft} (h : Fts lo hi w v xs) : ∃ ps : List FR, ps.map FR.x = xs ∧ Sl (flat FR.enc) 6 lo hi w v ps ∧ ∀ p ∈ ps, Spans lo hi w p.sl p.x.sp := by
  obtain ⟨ao, cap, hv, hle, hcm, hn, hc⟩ := h.form
  by_cases hx : xs = []
  · subst hx
    exact ⟨[], rfl, ⟨ao, cap, hv, hle, by simpa [maxLen] using hcm, hn, fun hne => absurd rfl hne⟩, fun p hp => by cases hp⟩
  · have h0 : 0 < xs.length := by
      cases xs with
      | nil => exact absurd rfl hx
      | cons a r => simp
    obtain ⟨b, off, rfl, hb1, hb2, hcc⟩ := hc 0 h0
    have hi' : ∀ i, i < xs.length → ∃ p : FR, xs.getD i default = p.x ∧ CellsAt w b (off + i * 6) p.enc ∧ Spans lo hi w p.sl p.x.sp := by
      intro i hil
      obtain ⟨cs, hl, hcs, sv, rfl, hsv⟩ := hcc i hil
      obtain ⟨sa, sc, hsl, -, -, -, -⟩ := hsv.form
      subst hsl
      exact ⟨⟨xs[i], sa, xs[i].sp.length, sc⟩, getD_at xs _ i hil, hcs, hsv⟩
    obtain ⟨F, hF⟩ := Deep.choose_lt hi'
    have hlen : ((List.range xs.length).map F).length = xs.length := by simp
    refine ⟨(List.range xs.length).map F, ?_, ⟨some ⟨b, off, none⟩, cap, by rw [hlen]; exact hv, by rw [hlen]; exact hle, by simpa [maxLen] using hcm, hn, fun _ => ⟨b, off, rfl, hb1, hb2, fun k hk => ?_⟩⟩, fun p hp => ?_⟩
    · apply List.ext_getElem
      · simp
      · intro i h1 h2
        simp only [List.getElem_map, List.getElem_range]
        rw [← (hF i h2).1, getD_at xs _ i h2]
    · rw [hlen] at hk
      refine ⟨_, rfl, by simpa using (hF k hk).2.1, ?_⟩
      simp [flat]
    · obtain ⟨i, hi1, rfl⟩ := List.mem_map.1 hp
      exact (hF i (List.mem_range.1 hi1)).2.2
/-- Facts of a call's own: their spans lie where they may, but not in the facts' own block. -/
def OwnFs (lo : Nat) (w : World) (v : Value) (xs : List Ft) : Prop :=
  ∃ ps : List FR, ps.map FR.x = xs ∧ OwnFR lo w v ps ∧ ∀ p ∈ ps, ∃ a b, Spans a b w p.sl p.x.sp ∧ b ≤ w.heap.size ∧ ∀ k, v.ownBlock = some k → k < a ∨ b ≤ k
theorem OwnFs.nil (lo : Nat) (w : World) : OwnFs lo w (.slice none 0 0) [] := ⟨[], rfl, Own.nil _ _ _ _ _, fun p hp => by cases hp⟩
theorem OwnFs.slice {lo : Nat} {w : World} {v : Value} {xs : List Ft} (h : OwnFs lo w v xs) : ∃ p c, v = .slice p xs.length c := by
  obtain ⟨ps, rfl, ho, -⟩ := h
  obtain ⟨p, c, e⟩ := Own.slice ho
  exact ⟨p, c, by rw [e, List.length_map]⟩
theorem OwnFs.fts {lo : Nat} {w : World} {v : Value} {xs : List Ft} (h : OwnFs lo w v xs) : Fts 0 w.heap.size w v xs := by
  obtain ⟨ps, rfl, ho, hs⟩ := h
  have hsl : Sl (flat FR.enc) 6 lo w.heap.size w v ps := Sl.ofOwn (fun _ => rfl) ho
  obtain ⟨ao, cap, hv, hle, hcm, hn, hc⟩ := hsl.form
  refine ⟨ao, cap, by rw [hv, List.length_map], by rw [List.length_map]; exact hle, by simpa [maxLen] using hcm, hn, fun hne => ?_⟩
  have h0 : 0 < ps.length := by
    cases ps with
    | nil => exact absurd rfl hne
    | cons a r => simp
  obtain ⟨b, off, rfl, hb1, hb2, hcc⟩ := hc 0 h0
  refine ⟨b, off, rfl, Nat.zero_le _, hb2, fun k hk => ?_⟩
  have hk' : k < ps.length := by simpa using hk
  obtain ⟨cs, hl, hcs, rfl⟩ := hcc k hk'
  obtain ⟨a, b', hsp, hb', -⟩ := hs ps[k] (List.getElem_mem hk')
  refine ⟨_, hl, hcs, ps[k].sl, ?_, ?_⟩
  · simp [FR.enc, FR.sl]
  · simpa using hsp.mono Sp.loc (Nat.zero_le _) hb'
theorem OwnFs.kept {lo : Nat} {w w' : World} {v : Value} {xs : List Ft} (h : OwnFs lo w v xs) (hB : Below w.heap.size w w') : OwnFs lo w' v xs := by
  obtain ⟨ps, e, ho, hs⟩ := h
  exact ⟨ps, e, Own.kept ho hB, fun p hp => by
    obtain ⟨a, b, h1, h2, h3⟩ := hs p hp
    exact ⟨a, b, h1.below Sp.loc hB h2, Nat.le_trans h2 hB.size, h3⟩⟩
theorem OwnFs.lt {lo : Nat} {w : World} {v : Value} {xs : List Ft} (h : OwnFs lo w v xs) : ∀ k, v.ownBlock = some k → lo ≤ k ∧ k < w.heap.size := by
  obtain ⟨ps, e, ho, hs⟩ := h
  exact Own.lt ho
/-- Facts more. -/
theorem OwnFs.app {lo a0 b0 : Nat} {w : World} {v x : Value} {xs ys : List Ft} (h : OwnFs lo w v xs) (hx : Fts a0 b0 w x ys) (hb0 : b0 ≤ w.heap.size) (ha0 : ∀ k, v.ownBlock = some k → k < a0 ∨ b0 ≤ k) (hb : xs.length + ys.length ≤ 1900000000000) (hlo : lo ≤ w.heap.size) :
    ∃ v' w', (Builtin.append_ #[29, 29] 29 #[v, x]).run Try.prog w = .ok v' w' ∧ OwnFs lo w' v' (xs ++ ys) ∧ Appended w v w' v' := by
  obtain ⟨ps, rfl, ho, hs⟩ := h
  obtain ⟨qs, rfl, hq, hqs⟩ := fts_raw hx
  obtain ⟨i0, hi, hz0, hz1, hz2⟩ := info_parts infoF
  obtain ⟨v', w', hr, ho', hap⟩ := Own.app ho _ _ _ i0 _ 72 Try.underlying29 hi hz0 hz1 hz2 rfl (Src.ofSl hq (fun _ => rfl) FR.one Try.underlying29) (by simp only [List.length_map] at hb; omega) (by omega) hlo
  refine ⟨v', w', hr, ⟨ps ++ qs, by simp, ho', fun p hp => ?_⟩, hap⟩
  have key : ∀ {a b : Nat} {u : Value} {l : List Sp}, Spans a b w u l → b ≤ w.heap.size → (∀ k, v.ownBlock = some k → k < a ∨ b ≤ k) → ∃ a b, Spans a b w' u l ∧ b ≤ w'.heap.size ∧ ∀ k, v'.ownBlock = some k → k < a ∨ b ≤ k := by
    intro a b u l h1 h2 h3
    refine ⟨a, b, h1.agree Sp.loc (hap.agree h2 h3), Nat.le_trans h2 hap.grown.size, fun k hk => ?_⟩
    rcases hap.moved with e | ⟨m, e, hm⟩
    · rw [e] at hk; exact h3 k hk
    · rw [e] at hk; injection hk with hk; omega
  rcases List.mem_append.1 hp with hp | hp
  · obtain ⟨a, b, h1, h2, h3⟩ := hs p hp
    exact key h1 h2 h3
  · exact key (hqs p hp) hb0 ha0
def fewL : List Ft := [⟨10, 1, ⟨7, 0, [117, 115, 101, 114, 47, 97, 103, 101]⟩, wholeL⟩, ⟨10, 2, ⟨1, 1, []⟩, wholeL⟩]
theorem spans_whole {w : World} {b : Nat} (h : Blk w b [.int .i64 (-9223372036854775808), .int .i64 9223372036854775807] 58) : Spans b (b + 1) w (.slice (some ⟨b, 0, none⟩) 1 1) wholeL := by
  refine ⟨some ⟨b, 0, none⟩, 1, rfl, Nat.le_refl _, by simp [maxLen], (fun e => by cases e), fun _ => ⟨b, 0, rfl, Nat.le_refl _, Nat.lt_succ_self _, fun k hk => ?_⟩⟩
  obtain rfl : k = 0 := by simp [wholeL] at hk; omega
  exact ⟨_, rfl, by simpa [wholeL, Sp.enc] using h.cells, rfl⟩
set_option maxRecDepth 100000 in
set_option maxHeartbeats 4000000 in
theorem few_any (lo hi : Nat) (more : List Ft) (vm : Value) (w : World) (hm : Fts lo hi w vm more) (hhi : hi ≤ w.heap.size) (hlen : more.length ≤ 1000000000000) (R : Ending → World → Prop)
    (hR : ∀ w' v', Below w.heap.size w w' → Fts 0 w'.heap.size w' v' (fewL ++ more) → R (.returned v') w') : Calls Try.prog 27 #[vm] w R := by
  have HR := Lib.hid hR
  have Hm := Lib.hid hm
  obtain ⟨am, cm, rfl, -, -, -, -⟩ := hm.form
  clear hR hm
  go_enter Try.func27, Try.ntmps27
  go_wp2_with fail
  refine fact_any 10 1 ⟨7, 0, [117, 115, 101, 114, 47, 97, 103, 101]⟩ w _ (fun w1 b1 hB1 hb1 hk1 => ?_)
  have HB1 := Lib.hid hB1
  have hz1 := hB1.size
  have Hk1 := Lib.hid hk1
  have hl1 := hk1.lt
  clear hB1 hk1
  go_wp2_with fail
  refine fact_any 10 2 ⟨1, 1, []⟩ w1 _ (fun w2 b2 hB2 hb2 hk2 => ?_)
  have HB2 := Lib.hid (HB1.out.trans (hB2.mono hz1))
  have hz2 := hB2.size
  have Hk12 := Lib.hid (Hk1.out.below hB2 hl1)
  have hl2 := hk2.lt
  obtain ⟨p1, hp1⟩ : ∃ p : FR, p = ⟨⟨10, 1, ⟨7, 0, [117, 115, 101, 114, 47, 97, 103, 101]⟩, wholeL⟩, some ⟨b1, 0, none⟩, 1, 1⟩ := ⟨_, rfl⟩
  obtain ⟨p2, hp2⟩ : ∃ p : FR, p = ⟨⟨10, 2, ⟨1, 1, []⟩, wholeL⟩, some ⟨b2, 0, none⟩, 1, 1⟩ := ⟨_, rfl⟩
  have hB3 := alloc_below w2 (.cells ([p1, p2].flatMap FR.enc).toArray 49)
  have ho3 : OwnFR w2.heap.size (w2.alloc (.cells ([p1, p2].flatMap FR.enc).toArray 49)) (.slice (some ⟨w2.heap.size, 0, none⟩) 2 2) [p1, p2] :=
    World.ownsRow_lit (base := w2.heap.size) (e := 49) (size := 6) w2 ([p1, p2].flatMap FR.enc).toArray 2 (Nat.le_refl _) (by simp [maxLen]) (by simp [FR.enc])
  obtain ⟨w3, hw3⟩ : ∃ x, x = w2.alloc (.cells ([p1, p2].flatMap FR.enc).toArray 49) := ⟨_, rfl⟩
  rw [← hw3] at hB3 ho3
  have hz3 := hB3.size
  have hOB : ∀ k, (Value.slice (some ⟨w2.heap.size, 0, none⟩) 2 2).ownBlock = some k → k = w2.heap.size := fun k hk => by simpa [Value.ownBlock, eq_comm] using hk
  have hs3 : OwnFs w2.heap.size w3 (.slice (some ⟨w2.heap.size, 0, none⟩) 2 2) fewL := by
    refine ⟨[p1, p2], by rw [hp1, hp2]; rfl, ho3, fun p hp => ?_⟩
    simp only [List.mem_cons, List.not_mem_nil, or_false] at hp
    rcases hp with e | e
    · rw [e, hp1]
      refine ⟨b1, b1 + 1, spans_whole (Hk12.out.below hB3 (by omega)), by omega, fun k hk => ?_⟩
      have := hOB k hk
      omega
    · rw [e, hp2]
      refine ⟨b2, b2 + 1, spans_whole (hk2.below hB3 hl2), by omega, fun k hk => ?_⟩
      have := hOB k hk
      omega
  have HB3 := Lib.hid (HB2.out.trans (hB3.mono (Nat.le_trans hz1 hz2)))
  have hm3 := Sl.below Hm.out ftE_loc HB3.out hhi
  obtain ⟨v4, w4, hr4, ho4, ha4⟩ := hs3.app hm3 (by omega) (fun k hk => by have := hOB k hk; omega) (by simp [fewL]; omega) hz3
  have hr := HR.out w4 v4 (HB3.out.trans (ha4.below (by omega) (fun k hk => by have := hOB k hk; omega))) ho4.fts
  obtain ⟨p4, c4, rfl⟩ := ho4.slice
  subst hw3 hp1 hp2
  simp only [FR.enc, List.flatMap_cons, List.flatMap_nil, List.cons_append, List.nil_append, List.append_nil] at hr4
  have Hr := Lib.hid hr
  have Hr4 := Lib.hid hr4
  clear hB2 hk2 hB3 ho3 hs3 hm3 ho4 ha4 hr hr4 hOB hz3
  clear HB3
  go_wp2_with (at_builtin; refine AtApp.of ?_)
  refine AtApp.go Hr4.out rfl rfl rfl rfl ?_
  go_wp2_with fail
  first | exact Hr.out | exact fin Hr.out (by rw [List.length_append]; rfl)
def ageA : Attr := ⟨10, [117, 115, 101, 114, 47, 97, 103, 101], 1, false, 0, false, false⟩
theorem few_err : ofErr fewL = 0 := by decide +kernel
theorem few_attrs : ofAttrs fewL = builtinL ++ [ageA] := by
  unfold ofAttrs
  rw [if_pos few_err]
  kernel_rfl
set_option maxRecDepth 100000 in
set_option maxHeartbeats 4000000 in
theorem alive_any (w : World) (R : Ending → World → Prop) (hR : ∀ w', Below w.heap.size w w' → R (.returned (.bool true)) w') : Calls Try.prog 23 #[] w R := by
  have HR := Lib.hid hR
  clear hR
  go_enter Try.func23, Try.ntmps23
  go_wp2_with fail
  refine few_any 0 w.heap.size [] _ w (Sl.nil _ _ _ _ _) (Nat.le_refl _) (by simp) _ (fun w1 v1 hB1 hf1 => ?_)
  rw [List.append_nil] at hf1
  have HB1 := Lib.hid hB1
  have hz1 := hB1.size
  have Hf1 := Lib.hid hf1
  obtain ⟨a1, c1, rfl, -, -, -, -⟩ := hf1.form
  clear hB1 hf1
  go_wp2_with fail
  refine Of_any 0 w1.heap.size fewL _ w1 Hf1.out (Nat.le_refl _) (by decide) (by decide) _ (fun w2 v2 hB2 ho2 => ?_)
  have hr := HR.out w2 (HB1.out.trans (hB2.mono hz1))
  rw [few_attrs] at ho2
  rw [few_err]
  obtain ⟨g, c, rfl, -, -, -, -, hc, -⟩ := Own.form ho2 (by decide)
  have h0 := hc 0 (.int .i64 1) rfl
  have h1 := hc 1 (.string ⟨#[100, 98, 47, 110, 97, 109, 101]⟩) rfl
  have h2 := hc 2 (.int .i64 7) rfl
  have h3 := hc 3 (.bool false) rfl
  have h4 := hc 4 (.int .i64 2) rfl
  have h5 := hc 5 (.bool false) rfl
  have h6 := hc 6 (.bool false) rfl
  have k0 := hc 49 (.int .i64 10) rfl
  have k1 := hc 50 (.string ⟨#[117, 115, 101, 114, 47, 97, 103, 101]⟩) rfl
  have k2 := hc 51 (.int .i64 1) rfl
  have k3 := hc 52 (.bool false) rfl
  have k4 := hc 53 (.int .i64 0) rfl
  have k5 := hc 54 (.bool false) rfl
  have k6 := hc 55 (.bool false) rfl
  rw [show (builtinL ++ [ageA]).length = 8 from rfl]
  simp only [Nat.zero_add] at h0 h1 h2 h3 h4 h5 h6 k0 k1 k2 k3 k4 k5 k6
  clear hc ho2 hB2
  go_wp2_with fail
  all_goals first | exact hr | exact fin hr rfl
end Go.Proofs.Ytkcpanaojehgiaa
