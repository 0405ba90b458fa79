/- PullTells holds: for any attributes, facts, entity and pattern the call returns true, and the arguments read behind it as before. Condition: none. -/
import Derived.LoopIn
import Derived.SizedLaws
import Derived.Test.YticbhfmpnmolcaaKPullTells9
/- pull.Pull and the document's Pull. (Printed by pulae.py.) -/
section
set_option linter.unusedVariables false
set_option linter.unusedSimpArgs false
namespace Go.Proofs.Yticbhfmpnmolcaa
open Go.RowKit
set_option linter.unusedVariables false
set_option linter.unusedSimpArgs false
/-- shape.Check's contract. -/
def PShape : Prop := ∀ (D lo hi : Nat) (l : List It) (v : Value) (w : World), Its D lo hi w v l → hi ≤ w.heap.size → allL l ≤ 1000 → deepL l ≤ 99 → ∀ (R : Ending → World → Prop),
  (∀ w', Below w.heap.size w w' → R (.returned (.int .i64 (if mayPat l then 0 else 190))) w') → Calls Try.prog 12 #[v] w R
set_option maxRecDepth 100000 in
set_option maxHeartbeats 16000000 in
theorem pPull_any (hSh : PShape) (d : Nat) (hd : d = 10001) (D : Nat) (attrs : List Attr) (fs : List Ft) (e : Int) (l : List It) (va vl v : Value) (w : World) (hva : Attrs 0 w.heap.size w va attrs) (hvl : Fts 0 w.heap.size w vl fs) (hv : Its D 0 w.heap.size w v l)
    (hal : allL l ≤ 1000) (hdl : deepL l ≤ 99) (hfl : fs.length ≤ 2000000000000) (hfv : ∀ x ∈ fs, x.v.s.length ≤ 9223372036854775807) (hatl : attrs.length ≤ 50) (hnm : ∀ a ∈ attrs, a.name.length ≤ 281474976710656) (hid : ∀ a ∈ attrs, -9223372036854775808 ≤ a.id ∧ a.id ≤ 9223372036854775807) (R : Ending → World → Prop)
    (hR : ∀ w' p n c err, Below w.heap.size w w' → PullOut d attrs fs e l w.heap.size w' p n c err → R (.returned (.tuple #[.slice p n c, .int .i64 err])) w') :
    Calls Try.prog 6 #[va, vl, .int .i64 e, v] w R := by
  have hmm := @run_makeMap Try.prog
  have HR := Lib.hid hR
  have Hva := Lib.hid hva
  have Hvl := Lib.hid hvl
  have Hv := Lib.hid hv
  have Hfv := Lib.hid hfv
  have Hnm := Lib.hid hnm
  have HidA := Lib.hid hid
  obtain ⟨pa, ca, rfl, -⟩ := hva.form
  obtain ⟨pl, cl, rfl, -⟩ := hvl.form
  obtain ⟨pv, cv, rfl, -⟩ := hv.form
  have hal63 := hva.len
  clear hR hva hvl hv hfv hnm hid
  go_enter Try.func6, Try.ntmps6
  go_wp2_with fail
  refine hSh D 0 w.heap.size l _ w Hv.out (Nat.le_refl _) hal hdl _ (fun w1 hB1 => ?_)
  obtain ⟨mp, hmp⟩ : ∃ mp, mp = mayPat l := ⟨_, rfl⟩
  rw [← hmp]
  have Hmp := Lib.hid hmp
  clear hmp
  cases mp with
  | false =>
    have hr := HR.out w1 none 0 0 190 hB1 (PullOut.e190 Hmp.out.symm)
    go_wp2_with fail
    first | exact hr | exact fin hr rfl
  | true =>
  have HB1 := Lib.hid hB1
  have hz1 := hB1.size
  clear hB1
  go_wp2_with fail
  refine fCheck_any 0 w.heap.size fs _ w1 (Sl.below Hvl.out ftE_loc HB1.out (Nat.le_refl _)) hz1 Hfv.out _ (fun w2 hB2 => ?_)
  obtain ⟨fb, hfb⟩ : ∃ fb, fb = factsB fs := ⟨_, rfl⟩
  rw [← hfb]
  have Hfb := Lib.hid hfb
  clear hfb
  have hz2 := hB2.size
  have HB2 := Lib.hid (HB1.out.trans (hB2.mono hz1))
  clear hB2
  cases fb with
  | false =>
    have hr := HR.out w2 none 0 0 60 HB2.out (PullOut.e60 Hmp.out.symm Hfb.out.symm)
    go_wp2_with fail
    first | exact hr | exact fin hr rfl
  | true =>
  go_wp2_with fail
  have hA1 := alloc_below w2 (.map #[] 0)
  have hA2 := alloc_below (w2.alloc (.map #[] 0)) (.cells #[.slice pl fs.length cl, .map (some w2.heap.size), .slice none 0 0, .int .i64 0, .bool false] 49)
  have hbk := Blk.new (w2.alloc (.map #[] 0)) [.slice pl fs.length cl, .map (some w2.heap.size), .slice none 0 0, .int .i64 0, .bool false] 49 rfl
  have hnm := (NamesAt.made w2).same (hA2.block w2.heap.size (by simp))
  have hsz : (w2.alloc (.map #[] 0)).heap.size = w2.heap.size + 1 := by simp
  have hP0 : PAt (w2.heap.size + 1) w2.heap.size 0 w _ (.slice pl fs.length cl) (.slice none 0 0) [] [] := ⟨HB2.out.trans ((hA1.trans (hA2.mono (by omega))).mono (by omega)), by rw [hsz] at hbk; exact hbk, hnm, Own.nil _ _ _ _ _, Nat.lt_succ_self _, by omega⟩
  clear hA1 hA2 hbk hnm
  generalize (w2.alloc (.map #[] 0)).alloc (.cells #[.slice pl fs.length cl, .map (some w2.heap.size), .slice none 0 0, .int .i64 0, .bool false] 49) = w3 at *
  obtain ⟨M, hM⟩ : ∃ M, M = w2.heap.size := ⟨_, rfl⟩
  rw [← hM] at hP0 ⊢
  obtain ⟨B, hBe⟩ : ∃ B, B = M + 1 := ⟨_, rfl⟩
  rw [← hBe] at hP0 ⊢
  obtain ⟨vlx, hvlx⟩ : ∃ x : Value, x = .slice pl fs.length cl := ⟨_, rfl⟩
  rw [← hvlx] at hP0
  have HP0 := Lib.hid hP0
  have Hvlx := Lib.hid hvlx
  clear hM hBe hP0 hvlx hsz
  go_loopw [31] (fun t31 wr => ∃ (k : Nat) (av : Value), k ≤ attrs.length ∧ t31 = .int .i64 k ∧ (∃ j, j ≤ k ∧ PAt B M j w wr vlx av (firstsP (attrs.take k)) (firstsP (attrs.take k)))) (fun t31 _ => attrs.length - (intOf t31).toNat)
  case atStart => exact ⟨0, .slice none 0 0, Nat.zero_le _, rfl, 0, Nat.le_refl _, HP0.out⟩
  case round =>
    obtain ⟨k, av, hk, rfl, j, hjk, hP⟩ := hrel
    obtain ⟨wo, ewo⟩ : ∃ x, x = wr := ⟨_, rfl⟩
    subst ewo
    have HPo := Lib.hid hP
    have hzo := hP.below.size
    have Hus := Lib.hid (firsts_facts (attrs.take k))
    have kk0 : (0 : Int) ≤ (k : Int) := by omega
    clear hP
    by_cases hlt : k < attrs.length
    · have kkl : (k : Int) < (attrs.length : Int) := by omega
      have Hx := Lib.hid (Sl.below Hva.out Attrs.loc HPo.out.below (Nat.le_refl _))
      obtain ⟨ao', cap', e', -, -, -, hc⟩ := Hx.out.form
      injection e' with e1 e2 e3
      subst e1 e3
      obtain ⟨b, off, rfl, hb1, hb2, hcc⟩ := hc k hlt
      obtain ⟨cs, -, hcs, e4⟩ := hcc k hlt
      have e5 : cs = Attr.enc attrs[k] := e4
      rw [e5] at hcs
      have Hst := Lib.hid (firsts_take hlt)
      have Hlen := Lib.hid (Hnm.out _ (List.getElem_mem hlt))
      have Hidr := Lib.hid (HidA.out _ (List.getElem_mem hlt))
      generalize attrs[k] = a at *
      obtain ⟨U, hU⟩ : ∃ U, U = firstsP (attrs.take k) := ⟨_, rfl⟩
      rw [← hU] at HPo Hus Hst
      have HU := Lib.hid hU
      have Hul : Hid (U.length ≤ 50) := Lib.hid (by have := Hus.out.1; rw [List.length_take] at this; omega)
      obtain ⟨p9, c9, e9⟩ := Own.slice HPo.out.own
      subst e9
      obtain ⟨iq, hiq⟩ : ∃ iq, iq = (U.findIdx? (byName a.name)).isSome := ⟨_, rfl⟩
      have Hiq := Lib.hid hiq
      have hcs2 : CellsAt wo b (off + k * 7) [.int .i64 a.id, .string ⟨a.name.toArray⟩, .int .i64 a.type, .bool a.many, .int .i64 a.unique, .bool a.part, .bool a.index] := hcs
      have Hcs := Lib.hid hcs2
      have Hbl : Hid (b < wo.heap.size) := Lib.hid (by omega)
      have Hbw : Hid (b < w.heap.size) := Lib.hid hb2
      obtain ⟨x0, x1, x2, x3, x4, x5, x6⟩ := hcs2.c7
      clear hU hiq hcs hcs2 hc hcc e2 e4 e5 hb1 hb2 Hx
      have Hk1 : Hid (j ≤ 1000) := Lib.hid (by omega)
      have hB4 := alloc_below wo (.cells #[.int .i64 a.id, .string ⟨a.name.toArray⟩, .int .i64 a.type, .bool a.many, .int .i64 a.unique, .bool a.part, .bool a.index] 28)
      have hb4 := Blk.new wo [.int .i64 a.id, .string ⟨a.name.toArray⟩, .int .i64 a.type, .bool a.many, .int .i64 a.unique, .bool a.part, .bool a.index] 28 rfl
      go_upto_region 10 with fail
      generalize wo.alloc (.cells #[.int .i64 a.id, .string ⟨a.name.toArray⟩, .int .i64 a.type, .bool a.many, .int .i64 a.unique, .bool a.part, .bool a.index] 28) = w4 at *
      obtain ⟨b4, eb4⟩ : ∃ b, b = wo.heap.size := ⟨_, rfl⟩
      rw [← eb4] at hb4 ⊢
      have hz4 := hB4.size
      have HP4 := Lib.hid (HPo.out.step hB4)
      have Hb4 := Lib.hid hb4
      have Hb4M : Hid (M < b4 ∧ B < b4 ∧ ∀ g, Value.ownBlock (.slice p9 U.length c9) = some g → g < b4) := Lib.hid ⟨by have := HPo.out.names.names.lt; omega, by have := HPo.out.blk.lt; omega, fun g hg => by have := (Own.lt HPo.out.own g hg).2; omega⟩
      clear x0 x1 x2 x3 x4 x5 x6 hB4 eb4 hb4
      refine wp_region_held_drew (S := fun w' => Below w4.heap.size w4 w') (by kernel_rfl) (Below.refl _ _).drew (fun hHeld => ?_)
      refine wpAnyH_take (i := 0) (v := .pointer (some ⟨B, 0, none⟩)) rfl (by kernel_rfl) (by kernel_rfl) (by kernel_rfl) (fun _ _ _ h => h) (Or.inl ⟨by rfl, ?_⟩) hHeld ?_
      · intro w' hSw; go_simp
      try simp only [ν1, ν2, ν3, ν4, ν5, ν6, ν7, ν8]
      refine wpAnyH_take (i := 1) (v := .pointer (some ⟨B, 0, none⟩)) rfl (by kernel_rfl) (by kernel_rfl) (by kernel_rfl) (fun _ _ _ h => h) (Or.inl ⟨by rfl, ?_⟩) hHeld ?_
      · intro w' hSw; go_simp
      try simp only [ν1, ν2, ν3, ν4, ν5, ν6, ν7, ν8]
      refine wpAnyH_take (i := 2) (v := .pointer (some ⟨B, 1, none⟩)) rfl (by kernel_rfl) (by kernel_rfl) (by kernel_rfl) (fun _ _ _ h => h) (Or.inl ⟨by rfl, ?_⟩) hHeld ?_
      · intro w' hSw; go_simp
      try simp only [ν1, ν2, ν3, ν4, ν5, ν6, ν7, ν8]
      refine wpAnyH_take (i := 3) (v := .map (some M)) rfl (by kernel_rfl) (by kernel_rfl) (by kernel_rfl) (fun _ _ _ h => h) (Or.inl ⟨by rfl, ?_⟩) hHeld ?_
      · intro w' hSw; have k1 := (HP4.out.step hSw).blk.cells 1 _ rfl; simp only [Nat.zero_add] at k1; go_simp
      try simp only [ν1, ν2, ν3, ν4, ν5, ν6, ν7, ν8]
      refine wpAnyH_take (i := 4) (v := .pointer (some ⟨b4, 1, none⟩)) rfl (by kernel_rfl) (by kernel_rfl) (by kernel_rfl) (fun _ _ _ h => h) (Or.inl ⟨by rfl, ?_⟩) hHeld ?_
      · intro w' hSw; go_simp
      try simp only [ν1, ν2, ν3, ν4, ν5, ν6, ν7, ν8]
      refine wpAnyH_take (i := 5) (v := .string ⟨a.name.toArray⟩) rfl (by kernel_rfl) (by kernel_rfl) (by kernel_rfl) (fun _ _ _ h => h) (Or.inl ⟨by rfl, ?_⟩) hHeld ?_
      · intro w' hSw; obtain ⟨k0, k1, k2, k3, k4, k5, k6⟩ := (Hb4.out.below hSw Hb4.out.lt).cells.c7; simp only [Nat.zero_add] at k1 k2 k3 k4 k5 k6; go_simp
      try simp only [ν1, ν2, ν3, ν4, ν5, ν6, ν7, ν8]
      refine wpAnyH_take (i := 6) (v := .tuple #[.int .i64 ((idOf U a.name)), .bool iq]) rfl (by kernel_rfl) (by kernel_rfl) (by kernel_rfl) (fun _ _ _ h => h) (Or.inl ⟨by rfl, ?_⟩) hHeld ?_
      · intro w' hSw; have kq := (HP4.out.step hSw).names.names.look_ok Hlen.out; rw [← Hiq.out] at kq; go_simp
      try simp only [ν1, ν2, ν3, ν4, ν5, ν6, ν7, ν8]
      refine wpAnyH_take (i := 7) (v := .tuple #[.int .i64 ((idOf U a.name)), .bool iq]) rfl (by kernel_rfl) (by kernel_rfl) (by kernel_rfl) (fun _ _ _ h => h) (Or.inl ⟨by rfl, ?_⟩) hHeld ?_
      · intro w' hSw; go_simp
      try simp only [ν1, ν2, ν3, ν4, ν5, ν6, ν7, ν8]
      refine wpAnyH_take (i := 8) (v := .int .i64 ((idOf U a.name))) rfl (by kernel_rfl) (by kernel_rfl) (by kernel_rfl) (fun _ _ _ h => h) (Or.inl ⟨by rfl, ?_⟩) hHeld ?_
      · intro w' hSw; go_simp
      try simp only [ν1, ν2, ν3, ν4, ν5, ν6, ν7, ν8]
      refine wpAnyH_take (i := 9) (v := .bool iq) rfl (by kernel_rfl) (by kernel_rfl) (by kernel_rfl) (fun _ _ _ h => h) (Or.inl ⟨by rfl, ?_⟩) hHeld ?_
      · intro w' hSw; go_simp
      try simp only [ν1, ν2, ν3, ν4, ν5, ν6, ν7, ν8]
      refine wpAnyH_take (i := 10) (v := .int .i64 ((idOf U a.name))) rfl (by kernel_rfl) (by kernel_rfl) (by kernel_rfl) (fun _ _ _ h => h) (Or.inl ⟨by rfl, ?_⟩) hHeld ?_
      · intro w' hSw; go_simp
      try simp only [ν1, ν2, ν3, ν4, ν5, ν6, ν7, ν8]
      refine wpAnyH_take (i := 11) (v := .bool iq) rfl (by kernel_rfl) (by kernel_rfl) (by kernel_rfl) (fun _ _ _ h => h) (Or.inl ⟨by rfl, ?_⟩) hHeld ?_
      · intro w' hSw; go_simp
      try simp only [ν1, ν2, ν3, ν4, ν5, ν6, ν7, ν8]
      refine wpAnyH_done (by kernel_rfl) ?_ _
      have hB5 := hHeld
      clear hHeld
      generalize w4.drew = w5 at *
      have HP5 := Lib.hid (HP4.out.step hB5)
      have Hb5 := Lib.hid (Hb4.out.below hB5 Hb4.out.lt)
      clear hB5
      cases iq with
      | true =>
        have Hn : Hid (firstsP (attrs.take (k + 1)) = U) := Lib.hid (by rw [Hst.out]; unfold addA; rw [if_pos Hiq.out.symm])
        go_wp2_with fail
        go_roundw
        case rel => exact ⟨k + 1, _, by omega, by go_num, j, by omega, by rw [Hn.out]; exact HP5.out⟩
        case measure => simp [intOf]; omega
      | false =>
        have Hn : Hid (firstsP (attrs.take (k + 1)) = U ++ [a]) := Lib.hid (by rw [Hst.out]; unfold addA; rw [if_neg (by rw [← Hiq.out]; decide)])
        have Hf : Hid ((U.findIdx? (byName a.name)).isSome = false) := Lib.hid Hiq.out.symm
        go_upto_region 12 with fail
        refine wp_region_held_drew (S := fun w' => Only (· = M) w5 w') (by kernel_rfl) (Only.drew _) (fun hHeld => ?_)
        refine wpAnyH_take (i := 0) (v := .pointer (some ⟨B, 0, none⟩)) rfl (by kernel_rfl) (by kernel_rfl) (by kernel_rfl) (fun _ _ _ h => h) (Or.inl ⟨by rfl, ?_⟩) hHeld ?_
        · intro w' hSw; go_simp
        try simp only [ν1, ν2, ν3, ν4, ν5, ν6, ν7, ν8]
        refine wpAnyH_take (i := 1) (v := .pointer (some ⟨B, 0, none⟩)) rfl (by kernel_rfl) (by kernel_rfl) (by kernel_rfl) (fun _ _ _ h => h) (Or.inl ⟨by rfl, ?_⟩) hHeld ?_
        · intro w' hSw; go_simp
        try simp only [ν1, ν2, ν3, ν4, ν5, ν6, ν7, ν8]
        refine wpAnyH_take (i := 2) (v := .pointer (some ⟨B, 1, none⟩)) rfl (by kernel_rfl) (by kernel_rfl) (by kernel_rfl) (fun _ _ _ h => h) (Or.inl ⟨by rfl, ?_⟩) hHeld ?_
        · intro w' hSw; go_simp
        try simp only [ν1, ν2, ν3, ν4, ν5, ν6, ν7, ν8]
        refine wpAnyH_take (i := 3) (v := .map (some M)) rfl (by kernel_rfl) (by kernel_rfl) (by kernel_rfl) (fun _ _ _ h => h) (Or.inl ⟨by rfl, ?_⟩) hHeld ?_
        · intro w' hSw; have k1 := (hSw.blk HP5.out.blk (fun e => by have : B = M := e; have := HP5.out.mB; omega)).cells 1 _ rfl; simp only [Nat.zero_add] at k1; go_simp
        try simp only [ν1, ν2, ν3, ν4, ν5, ν6, ν7, ν8]
        refine wpAnyH_take (i := 4) (v := .pointer (some ⟨b4, 1, none⟩)) rfl (by kernel_rfl) (by kernel_rfl) (by kernel_rfl) (fun _ _ _ h => h) (Or.inl ⟨by rfl, ?_⟩) hHeld ?_
        · intro w' hSw; go_simp
        try simp only [ν1, ν2, ν3, ν4, ν5, ν6, ν7, ν8]
        refine wpAnyH_take (i := 5) (v := .string ⟨a.name.toArray⟩) rfl (by kernel_rfl) (by kernel_rfl) (by kernel_rfl) (fun _ _ _ h => h) (Or.inl ⟨by rfl, ?_⟩) hHeld ?_
        · intro w' hSw; obtain ⟨k0, k1, k2, k3, k4, k5, k6⟩ := (hSw.blk Hb5.out (fun e => by have : b4 = M := e; have := Hb4M.out; omega)).cells.c7; simp only [Nat.zero_add] at k1 k2 k3 k4 k5 k6; go_simp
        try simp only [ν1, ν2, ν3, ν4, ν5, ν6, ν7, ν8]
        refine wpAnyH_take (i := 6) (v := .pointer (some ⟨b4, 0, none⟩)) rfl (by kernel_rfl) (by kernel_rfl) (by kernel_rfl) (fun _ _ _ h => h) (Or.inl ⟨by rfl, ?_⟩) hHeld ?_
        · intro w' hSw; go_simp
        try simp only [ν1, ν2, ν3, ν4, ν5, ν6, ν7, ν8]
        refine wpAnyH_take (i := 7) (v := .int .i64 (a.id)) rfl (by kernel_rfl) (by kernel_rfl) (by kernel_rfl) (fun _ _ _ h => h) (Or.inl ⟨by rfl, ?_⟩) hHeld ?_
        · intro w' hSw; obtain ⟨k0, k1, k2, k3, k4, k5, k6⟩ := (hSw.blk Hb5.out (fun e => by have : b4 = M := e; have := Hb4M.out; omega)).cells.c7; simp only [Nat.zero_add] at k1 k2 k3 k4 k5 k6; go_simp
        try simp only [ν1, ν2, ν3, ν4, ν5, ν6, ν7, ν8]
        obtain ⟨w6, hr6, hn6, hO6⟩ := (HP5.out.names.same (w' := w5.drew) rfl).put Hf.out Hlen.out Hidr.out Hk1.out
        have hH6 : Only (· = M) w5 w6 := hHeld.trans hO6
        refine wpAnyH_ready (rs := [8]) (by kernel_rfl) (by simp) ?_
        refine allSkip (w' := w6) rfl (by kernel_rfl) (by go_simp) hH6 ?_ AllReadyH.nil
        clear hHeld hr6
        have hHeld := hH6
        try simp only [ν1, ν2, ν3, ν4, ν5, ν6, ν7, ν8]
        refine wpAnyH_done (by kernel_rfl) ?_ _
        clear hHeld
        have HP6 := Lib.hid (HP5.out.only hH6 hn6)
        have Hb6 := Lib.hid (hH6.blk Hb5.out (fun e => by have : b4 = M := e; have := Hb4M.out; omega))
        have Hnb : Hid (¬ (b4 = B ∨ Value.ownBlock (.slice p9 U.length c9) = some b4)) := Lib.hid (fun e => by
          have h1 := Hb4M.out
          rcases e with e | e
          · omega
          · have := h1.2.2 b4 e; omega)
        clear hO6 hn6
        go_upto_region 13 with fail
        refine region_meet (ι := Nat × Value) (fun ⟨bn, v8⟩ => [(55, .pointer (some ⟨B, 0, none⟩)), (56, .pointer (some ⟨B, 0, none⟩)), (57, .pointer (some ⟨B, 0, none⟩)), (58, .pointer (some ⟨B, 2, none⟩)), (59, .slice p9 U.length c9), (60, .agg #[.int .i64 (a.id), .string ⟨a.name.toArray⟩, .int .i64 (a.type), .bool a.many, .int .i64 (a.unique), .bool a.part, .bool a.index]), (61, .slice (some ⟨bn, 0, none⟩) 1 1), (62, v8), (63, .pointer (some ⟨B, 0, none⟩)), (64, .pointer (some ⟨B, 2, none⟩))]) (fun ⟨bn, v8⟩ w' => Only (fun k => k = B ∨ Value.ownBlock (.slice p9 U.length c9) = some k) w6 w' ∧ PAt B M (j + 1) w w' vlx v8 (U ++ [a]) (U ++ [a])) ?_ ?_
        · refine wp_region_held_drew (S := fun w' => Only (fun k => k = B ∨ Value.ownBlock (.slice p9 U.length c9) = some k) w6 w') (by kernel_rfl) (Only.drew _) (fun hHeld => ?_)
          have hPd := HP6.out.step (Below.refl _ _).drew
          have hOd : Only (fun k => k = B ∨ Value.ownBlock (.slice p9 U.length c9) = some k) w6 w6.drew := Only.drew _
          generalize w6.drew = wd at *
          refine wpAnyH_take (i := 0) (v := .pointer (some ⟨B, 0, none⟩)) rfl (by kernel_rfl) (by kernel_rfl) (by kernel_rfl) (fun _ _ _ h => h) (Or.inl ⟨by rfl, ?_⟩) hHeld ?_
          · intro w' hSw; go_simp
          try simp only [ν1, ν2, ν3, ν4, ν5, ν6, ν7, ν8]
          refine wpAnyH_take (i := 1) (v := .pointer (some ⟨B, 0, none⟩)) rfl (by kernel_rfl) (by kernel_rfl) (by kernel_rfl) (fun _ _ _ h => h) (Or.inl ⟨by rfl, ?_⟩) hHeld ?_
          · intro w' hSw; go_simp
          try simp only [ν1, ν2, ν3, ν4, ν5, ν6, ν7, ν8]
          refine wpAnyH_take (i := 2) (v := .pointer (some ⟨B, 0, none⟩)) rfl (by kernel_rfl) (by kernel_rfl) (by kernel_rfl) (fun _ _ _ h => h) (Or.inl ⟨by rfl, ?_⟩) hHeld ?_
          · intro w' hSw; go_simp
          try simp only [ν1, ν2, ν3, ν4, ν5, ν6, ν7, ν8]
          refine wpAnyH_take (i := 3) (v := .pointer (some ⟨B, 2, none⟩)) rfl (by kernel_rfl) (by kernel_rfl) (by kernel_rfl) (fun _ _ _ h => h) (Or.inl ⟨by rfl, ?_⟩) hHeld ?_
          · intro w' hSw; go_simp
          try simp only [ν1, ν2, ν3, ν4, ν5, ν6, ν7, ν8]
          refine wpAnyH_take (i := 5) (v := .agg #[.int .i64 (a.id), .string ⟨a.name.toArray⟩, .int .i64 (a.type), .bool a.many, .int .i64 (a.unique), .bool a.part, .bool a.index]) rfl (by kernel_rfl) (by kernel_rfl) (by kernel_rfl) (fun _ _ _ h => h) (Or.inl ⟨by rfl, ?_⟩) hHeld ?_
          · intro w' hSw; obtain ⟨k0, k1, k2, k3, k4, k5, k6⟩ := (hSw.blk Hb6.out Hnb.out).cells.c7; simp only [Nat.zero_add] at k1 k2 k3 k4 k5 k6; go_simp
          try simp only [ν1, ν2, ν3, ν4, ν5, ν6, ν7, ν8]
          refine wpAnyH_ready (rs := [4, 6]) (by kernel_rfl) (by simp) ?_
          refine allVal (v := .slice p9 U.length c9) (w' := wd) rfl (by kernel_rfl) (by have kc := hPd.blk.cells; have k2 := kc 2 _ rfl; simp only [Nat.zero_add] at k2; go_simp) hHeld ?_ ?_
          · try simp only [ν1, ν2, ν3, ν4, ν5, ν6, ν7, ν8]
            refine wpAnyH_ready (rs := [6]) (by kernel_rfl) (by simp) ?_
            have hH7 : Only (fun k => k = B ∨ Value.ownBlock (.slice p9 U.length c9) = some k) w6 (wd.alloc (.cells #[.int .i64 a.id, .string ⟨a.name.toArray⟩, .int .i64 a.type, .bool a.many, .int .i64 a.unique, .bool a.part, .bool a.index] 28)) := hHeld.trans (Only.alloc wd _)
            refine allVal (v := .slice (some ⟨wd.heap.size, 0, none⟩) 1 1) (w' := wd.alloc (.cells #[.int .i64 a.id, .string ⟨a.name.toArray⟩, .int .i64 a.type, .bool a.many, .int .i64 a.unique, .bool a.part, .bool a.index] 28)) rfl (by kernel_rfl) (by go_simp) hH7 ?_ AllReadyH.nil
            clear hHeld
            have hHeld := hH7
            clear hH7
            have hP7 := hPd.step (alloc_below wd (.cells #[.int .i64 a.id, .string ⟨a.name.toArray⟩, .int .i64 a.type, .bool a.many, .int .i64 a.unique, .bool a.part, .bool a.index] 28))
            obtain ⟨bn, ebn⟩ : ∃ b, b = wd.heap.size := ⟨_, rfl⟩
            rw [← ebn]
            try simp only [ν1, ν2, ν3, ν4, ν5, ν6, ν7, ν8]
            refine wpAnyH_ready (rs := [7]) (by kernel_rfl) (by simp) ?_
            have hown6 := hPd.own
            obtain ⟨v8, w8, hr8, ho8, ha8⟩ := app_one Try.underlying22 infoAt rfl Attr.enc_len Attr.enc_one hown6 a (n := bn) ebn (by have := Hul.out; omega) (by decide) (by have := hPd.blk.lt; exact this)
            simp only [Attr.enc] at hr8
            have hH8 : Only (fun k => k = B ∨ Value.ownBlock (.slice p9 U.length c9) = some k) w6 w8 := (hOd.trans (ha8.only.mono (fun _ _ e => .inr e)))
            refine allVal (v := v8) (w' := w8) rfl (by kernel_rfl) (execApp hr8 rfl rfl rfl) hH8 ?_ AllReadyH.nil
            clear hHeld hr8
            have hHeld := hH8
            clear hH8
            have hbx8 := ha8.blk hPd.blk (fun e => by have := (Own.lt hown6 _ e).1; omega)
            try simp only [ν1, ν2, ν3, ν4, ν5, ν6, ν7, ν8]
            refine wpAnyH_take (i := 8) (v := .pointer (some ⟨B, 0, none⟩)) rfl (by kernel_rfl) (by kernel_rfl) (by kernel_rfl) (fun _ _ _ h => h) (Or.inl ⟨by rfl, ?_⟩) hHeld ?_
            · intro w' hSw; go_simp
            try simp only [ν1, ν2, ν3, ν4, ν5, ν6, ν7, ν8]
            refine wpAnyH_take (i := 9) (v := .pointer (some ⟨B, 2, none⟩)) rfl (by kernel_rfl) (by kernel_rfl) (by kernel_rfl) (fun _ _ _ h => h) (Or.inl ⟨by rfl, ?_⟩) hHeld ?_
            · intro w' hSw; go_simp
            try simp only [ν1, ν2, ν3, ν4, ν5, ν6, ν7, ν8]
            refine wpAnyH_ready (rs := [10]) (by kernel_rfl) (by simp) ?_
            obtain ⟨p8, c8, e8⟩ := Own.slice ho8
            have zc := hbx8.cells 2 _ rfl
            simp only [Nat.zero_add] at zc
            have zl := hbx8.lt
            have zf := hbx8.free 2
            have hH9 : Only (fun k => k = B ∨ Value.ownBlock (.slice p9 U.length c9) = some k) w6 (w8.setCell ⟨B, 2, none⟩ v8) := hHeld.trans (Only.setCell (A := (fun k => k = B ∨ Value.ownBlock (.slice p9 U.length c9) = some k)) w8 (p := ⟨B, 2, none⟩) (.inl rfl) _)
            refine allSkip (w' := (w8.setCell ⟨B, 2, none⟩ v8)) rfl (by kernel_rfl) (by rw [e8]; go_simp) hH9 ?_ AllReadyH.nil
            have hP9 := hPd.app ha8 ho8
            clear hHeld zc zl zf e8
            have hHeld := hH9
            clear hH9
            try simp only [ν1, ν2, ν3, ν4, ν5, ν6, ν7, ν8]
            refine wpAnyH_done (by kernel_rfl) ?_ _
            exact ⟨⟨bn, v8⟩, by kernel_rfl, hHeld, hP9⟩
          have hH7 : Only (fun k => k = B ∨ Value.ownBlock (.slice p9 U.length c9) = some k) w6 (wd.alloc (.cells #[.int .i64 a.id, .string ⟨a.name.toArray⟩, .int .i64 a.type, .bool a.many, .int .i64 a.unique, .bool a.part, .bool a.index] 28)) := hHeld.trans (Only.alloc wd _)
          refine allVal (v := .slice (some ⟨wd.heap.size, 0, none⟩) 1 1) (w' := wd.alloc (.cells #[.int .i64 a.id, .string ⟨a.name.toArray⟩, .int .i64 a.type, .bool a.many, .int .i64 a.unique, .bool a.part, .bool a.index] 28)) rfl (by kernel_rfl) (by go_simp) hH7 ?_ AllReadyH.nil
          clear hHeld
          have hHeld := hH7
          clear hH7
          have hP7 := hPd.step (alloc_below wd (.cells #[.int .i64 a.id, .string ⟨a.name.toArray⟩, .int .i64 a.type, .bool a.many, .int .i64 a.unique, .bool a.part, .bool a.index] 28))
          obtain ⟨bn, ebn⟩ : ∃ b, b = wd.heap.size := ⟨_, rfl⟩
          rw [← ebn]
          try simp only [ν1, ν2, ν3, ν4, ν5, ν6, ν7, ν8]
          refine wpAnyH_ready (rs := [4]) (by kernel_rfl) (by simp) ?_
          refine allVal (v := .slice p9 U.length c9) (w' := (wd.alloc (.cells #[.int .i64 a.id, .string ⟨a.name.toArray⟩, .int .i64 a.type, .bool a.many, .int .i64 a.unique, .bool a.part, .bool a.index] 28))) rfl (by kernel_rfl) (by have kc := hP7.blk.cells; have k2 := kc 2 _ rfl; simp only [Nat.zero_add] at k2; go_simp) hHeld ?_ AllReadyH.nil
          try simp only [ν1, ν2, ν3, ν4, ν5, ν6, ν7, ν8]
          refine wpAnyH_ready (rs := [7]) (by kernel_rfl) (by simp) ?_
          have hown6 := hPd.own
          obtain ⟨v8, w8, hr8, ho8, ha8⟩ := app_one Try.underlying22 infoAt rfl Attr.enc_len Attr.enc_one hown6 a (n := bn) ebn (by have := Hul.out; omega) (by decide) (by have := hPd.blk.lt; exact this)
          simp only [Attr.enc] at hr8
          have hH8 : Only (fun k => k = B ∨ Value.ownBlock (.slice p9 U.length c9) = some k) w6 w8 := (hOd.trans (ha8.only.mono (fun _ _ e => .inr e)))
          refine allVal (v := v8) (w' := w8) rfl (by kernel_rfl) (execApp hr8 rfl rfl rfl) hH8 ?_ AllReadyH.nil
          clear hHeld hr8
          have hHeld := hH8
          clear hH8
          have hbx8 := ha8.blk hPd.blk (fun e => by have := (Own.lt hown6 _ e).1; omega)
          try simp only [ν1, ν2, ν3, ν4, ν5, ν6, ν7, ν8]
          refine wpAnyH_take (i := 8) (v := .pointer (some ⟨B, 0, none⟩)) rfl (by kernel_rfl) (by kernel_rfl) (by kernel_rfl) (fun _ _ _ h => h) (Or.inl ⟨by rfl, ?_⟩) hHeld ?_
          · intro w' hSw; go_simp
          try simp only [ν1, ν2, ν3, ν4, ν5, ν6, ν7, ν8]
          refine wpAnyH_take (i := 9) (v := .pointer (some ⟨B, 2, none⟩)) rfl (by kernel_rfl) (by kernel_rfl) (by kernel_rfl) (fun _ _ _ h => h) (Or.inl ⟨by rfl, ?_⟩) hHeld ?_
          · intro w' hSw; go_simp
          try simp only [ν1, ν2, ν3, ν4, ν5, ν6, ν7, ν8]
          refine wpAnyH_ready (rs := [10]) (by kernel_rfl) (by simp) ?_
          obtain ⟨p8, c8, e8⟩ := Own.slice ho8
          have zc := hbx8.cells 2 _ rfl
          simp only [Nat.zero_add] at zc
          have zl := hbx8.lt
          have zf := hbx8.free 2
          have hH9 : Only (fun k => k = B ∨ Value.ownBlock (.slice p9 U.length c9) = some k) w6 (w8.setCell ⟨B, 2, none⟩ v8) := hHeld.trans (Only.setCell (A := (fun k => k = B ∨ Value.ownBlock (.slice p9 U.length c9) = some k)) w8 (p := ⟨B, 2, none⟩) (.inl rfl) _)
          refine allSkip (w' := (w8.setCell ⟨B, 2, none⟩ v8)) rfl (by kernel_rfl) (by rw [e8]; go_simp) hH9 ?_ AllReadyH.nil
          have hP9 := hPd.app ha8 ho8
          clear hHeld zc zl zf e8
          have hHeld := hH9
          clear hH9
          try simp only [ν1, ν2, ν3, ν4, ν5, ν6, ν7, ν8]
          refine wpAnyH_done (by kernel_rfl) ?_ _
          exact ⟨⟨bn, v8⟩, by kernel_rfl, hHeld, hP9⟩
        rintro ⟨bn, v8⟩ wz ⟨hO9, hP9⟩
        simp only [List.foldl_cons, List.foldl_nil]
        try simp only [ν1, ν2, ν3, ν4, ν5, ν6, ν7, ν8]
        have HP9 := Lib.hid hP9
        clear hO9 hP9
        go_wp2_with fail
        go_roundw
        case rel => exact ⟨k + 1, v8, by omega, by go_num, j + 1, by omega, by rw [Hn.out]; exact HP9.out⟩
        case measure => simp [intOf]; omega
    · have hke : k = attrs.length := by omega
      have kkl : ¬ ((k : Nat) : Int) < (attrs.length : Int) := by omega
      have Hatl := Lib.hid hatl
      rw [List.take_of_length_le (by omega)] at HPo Hus
      obtain ⟨U, hU⟩ : ∃ U, U = firstsP attrs := ⟨_, rfl⟩
      rw [← hU] at HPo Hus
      have HU := Lib.hid hU
      have Hul : Hid (U.length ≤ 50) := Lib.hid (by have := Hus.out.1; omega)
      obtain ⟨p9, c9, e9⟩ := Own.slice HPo.out.own
      subst e9
      have Hvl0 := Lib.hid (Sl.below Hvl.out ftE_loc HPo.out.below (Nat.le_refl _))
      have Hv0 := Lib.hid (Sl.below Hv.out (itE_loc D) HPo.out.below (Nat.le_refl _))
      clear hU hke
      have HX : Hid (PulX B M wo.heap.size wo (.slice pl fs.length cl) (.slice p9 U.length c9) fs U 0) := Lib.hid ⟨by have h := HPo.out.blk; rw [Hvlx.out] at h; exact h, Sl.mono Hvl0.out ftE_loc (Nat.le_refl _) (by have h1 := HPo.out.mB; have h2 := HPo.out.mb; omega), Sl.ofOwn Attr.enc_len HPo.out.own, Nat.le_refl _, HPo.out.names.names, by have := HPo.out.mB; omega⟩
      have HBo : Hid (Below w.heap.size w wo) := Lib.hid HPo.out.below
      have HwB : Hid (w.heap.size ≤ B ∧ B < wo.heap.size) := Lib.hid ⟨by have h1 := HPo.out.mB; have h2 := HPo.out.mb; omega, HPo.out.blk.lt⟩
      clear HPo
      go_wp2_with fail
      refine pKnown_any D B M wo.heap.size 0 w.heap.size _ _ fs U 0 l _ wo HX.out Hv0.out (by omega) _ (fun w7 hB7 => ?_)
      obtain ⟨kn, hkn⟩ : ∃ kn, kn = knownL U l := ⟨_, rfl⟩
      rw [← hkn]
      have Hkn : Hid (knownL (firstsP attrs) l = kn) := Lib.hid (by rw [hkn, HU.out])
      have HX7 := Lib.hid (HX.out.below hB7)
      have hz7 := hB7.size
      have HB7 : Hid (Below w.heap.size w w7) := Lib.hid (HBo.out.trans (hB7.mono hzo))
      have Hv7 : Hid (Its D 0 B w7 (.slice pv l.length cv) l) := Lib.hid (Sl.mono (Sl.below Hv0.out (itE_loc D) hB7 (by omega)) (itE_loc D) (Nat.le_refl _) HwB.out.1)
      clear hkn hB7
      cases kn with
      | false =>
        have hr := HR.out w7 none 0 0 200 HB7.out (PullOut.e200 Hmp.out.symm Hfb.out.symm Hkn.out)
        go_wp2_with fail
        first | exact hr | exact fin hr rfl
      | true =>
        obtain ⟨ps, hps, hpat⟩ := Pat.of Hv7.out (by have := HwB.out.2; omega) hal
        have Hps := Lib.hid hps
        have hB8 := alloc_below w7 (.cells #[.int .i64 e] 2)
        have hb8 := Blk.new w7 [.int .i64 e] 2 rfl
        have HX8 := Lib.hid (HX7.out.below hB8)
        have Hp8 := Lib.hid (hpat.turn (Below.only hB8))
        have HB8 := Lib.hid (HB7.out.trans (hB8.mono HB7.out.size))
        have hz8 := hB8.size
        have HF : Hid (Fit fs U d 0 [e]) := Lib.hid ⟨hfl, Hul.out, Hus.out.2.2, fun a ha => Hnm.out a (Hus.out.2.1 a ha), Int.le_refl _, by decide, by omega, by omega, by have : ([e] : List Int).length = 1 := rfl; omega⟩
        have Hfine : Hid (finePat (ps.map (·.1)) = true) := Lib.hid (by rw [Hps.out]; exact may_fine Hmp.out.symm)
        clear hps hpat hB8
        go_wp2_with fail
        have Hpa : Hid (Pth B w7.heap.size (w7.heap.size + 1) (w7.alloc (.cells #[.int .i64 e] 2)) (.slice (some ⟨w7.heap.size, 0, none⟩) 1 1) [e]) := Lib.hid ⟨one_int hb8, by have := HwB.out.2; omega, by simp⟩
        generalize w7.alloc (.cells #[.int .i64 e] 2) = w8 at *
        refine pTree_any d B M wo.heap.size D 0 B w7.heap.size (w7.heap.size + 1) _ _ fs U 0 e ps [e] _ _ w8 HX8.out Hp8.out Hpa.out HF.out Hfine.out _ (fun w9 n' ta tl tc hO9 hb9 hout => ?_)
        have HB9 : Hid (Below w.heap.size w w9) := Lib.hid (HB8.out.trans (hO9.below HB8.out.size (fun k e => by have : k = B := e; have := HwB.out.1; omega)))
        have hout2 := hout.pull
        rw [Hps.out, HU.out] at hout2
        have zz := hb9.cells 4 _ rfl
        simp only [Nat.zero_add] at zz
        have zl := hb9.lt
        have Hw8 : Hid (w.heap.size ≤ w8.heap.size) := Lib.hid HB8.out.size
        clear hO9 hb9 hout hb8
        rcases hout2 with ⟨h1, h2, h3⟩ | ⟨h1, h2⟩
        · have hr := HR.out w9 ta tl tc 0 HB9.out (PullOut.e0 Hmp.out.symm Hfb.out.symm Hkn.out h1 ((TrIn.loc d).mono h3 Hw8.out (Nat.le_refl _)))
          rw [decide_eq_false (show ¬ (10000 : Int) < n' by omega)] at zz
          clear h1 h2 h3
          go_wp2_with fail
          first | exact hr | exact fin hr rfl
        · have hr := HR.out w9 none 0 0 201 HB9.out (PullOut.e201 Hmp.out.symm Hfb.out.symm Hkn.out h1)
          rw [decide_eq_true h2] at zz
          clear h1 h2
          go_wp2_with fail
          first | exact hr | exact fin hr rfl
set_option maxRecDepth 100000 in
set_option maxHeartbeats 16000000 in
theorem refPull_any (hSh : PShape) (d : Nat) (hd : d = 10001) (D : Nat) (attrs : List Attr) (fs : List Ft) (e : Int) (l : List It) (va vl v : Value) (w : World) (hva : Attrs 0 w.heap.size w va attrs) (hvl : Fts 0 w.heap.size w vl fs) (hv : Its D 0 w.heap.size w v l)
    (hal : allL l ≤ 1000) (hdl : deepL l ≤ 99) (hfl : fs.length ≤ 2000000000000) (hfv : ∀ x ∈ fs, x.v.s.length ≤ 9223372036854775807) (hatl : attrs.length ≤ 50) (hnm : ∀ a ∈ attrs, a.name.length ≤ 281474976710656) (hid : ∀ a ∈ attrs, -9223372036854775808 ≤ a.id ∧ a.id ≤ 9223372036854775807) (R : Ending → World → Prop)
    (hR : ∀ w' p n c err, Below w.heap.size w w' → PullOut d attrs fs e l w.heap.size w' p n c err → R (.returned (.tuple #[.slice p n c, .int .i64 err])) w') :
    Calls Try.prog 7 #[va, vl, .int .i64 e, v] w R := by
  clear hSh
  have HR := Lib.hid hR
  have Hva := Lib.hid hva
  have Hvl := Lib.hid hvl
  have Hv := Lib.hid hv
  have Hfv := Lib.hid hfv
  have Hnm := Lib.hid hnm
  have HidA := Lib.hid hid
  obtain ⟨pa, ca, rfl, -⟩ := hva.form
  obtain ⟨pl, cl, rfl, -⟩ := hvl.form
  obtain ⟨pv, cv, rfl, -⟩ := hv.form
  have hal63 := hva.len
  clear hR hva hvl hv hfv hnm hid
  go_enter Try.func7, Try.ntmps7
  go_wp2_with fail
  refine refMayPat_any D 0 w.heap.size l _ w Hv.out (Nat.le_refl _) hal hdl _ (fun w1 hB1 => ?_)
  obtain ⟨mp, hmp⟩ : ∃ mp, mp = mayPat l := ⟨_, rfl⟩
  rw [← hmp]
  have Hmp := Lib.hid hmp
  clear hmp
  cases mp with
  | false =>
    have hr := HR.out w1 none 0 0 190 hB1 (PullOut.e190 Hmp.out.symm)
    go_wp2_with fail
    first | exact hr | exact fin hr rfl
  | true =>
  have HB1 := Lib.hid hB1
  have hz1 := hB1.size
  clear hB1
  go_wp2_with fail
  refine fMay_any 0 w.heap.size fs _ w1 (Sl.below Hvl.out ftE_loc HB1.out (Nat.le_refl _)) hz1 Hfv.out _ (fun w2 hB2 => ?_)
  obtain ⟨fb, hfb⟩ : ∃ fb, fb = factsB fs := ⟨_, rfl⟩
  rw [← hfb]
  have Hfb := Lib.hid hfb
  clear hfb
  have hz2 := hB2.size
  have HB2 := Lib.hid (HB1.out.trans (hB2.mono hz1))
  clear hB2
  cases fb with
  | false =>
    have hr := HR.out w2 none 0 0 60 HB2.out (PullOut.e60 Hmp.out.symm Hfb.out.symm)
    go_wp2_with fail
    first | exact hr | exact fin hr rfl
  | true =>
  go_wp2_with fail
  have hA2 := alloc_below w2 (.cells #[.slice pl fs.length cl, .slice none 0 0, .int .i64 0] 57)
  have hbk := Blk.new w2 [.slice pl fs.length cl, .slice none 0 0, .int .i64 0] 57 rfl
  have hP0 : RAt w2.heap.size w _ (.slice pl fs.length cl) (.slice none 0 0) [] := ⟨HB2.out.trans (hA2.mono (by omega)), hbk, Own.nil _ _ _ _ _, by omega⟩
  clear hA2 hbk
  generalize w2.alloc (.cells #[.slice pl fs.length cl, .slice none 0 0, .int .i64 0] 57) = w3 at *
  obtain ⟨B, hBe⟩ : ∃ B, B = w2.heap.size := ⟨_, rfl⟩
  rw [← hBe] at hP0 ⊢
  obtain ⟨vlx, hvlx⟩ : ∃ x : Value, x = .slice pl fs.length cl := ⟨_, rfl⟩
  rw [← hvlx] at hP0
  have HP0 := Lib.hid hP0
  have Hvlx := Lib.hid hvlx
  clear hBe hP0 hvlx
  go_loopw [13] (fun t13 wr => ∃ (k : Nat) (av : Value), k ≤ attrs.length ∧ t13 = .int .i64 k ∧ RAt B w wr vlx av (firstsP (attrs.take k))) (fun t13 _ => attrs.length - (intOf t13).toNat)
  case atStart => exact ⟨0, .slice none 0 0, Nat.zero_le _, rfl, HP0.out⟩
  case round =>
    obtain ⟨k, av, hk, rfl, hP⟩ := hrel
    obtain ⟨wo, ewo⟩ : ∃ x, x = wr := ⟨_, rfl⟩
    subst ewo
    have HPo := Lib.hid hP
    have hzo := hP.below.size
    have Hus := Lib.hid (firsts_facts (attrs.take k))
    have kk0 : (0 : Int) ≤ (k : Int) := by omega
    clear hP
    by_cases hlt : k < attrs.length
    · have kkl : (k : Int) < (attrs.length : Int) := by omega
      have Hx := Lib.hid (Sl.below Hva.out Attrs.loc HPo.out.below (Nat.le_refl _))
      obtain ⟨ao', cap', e', -, -, -, hc⟩ := Hx.out.form
      injection e' with e1 e2 e3
      subst e1 e3
      obtain ⟨b, off, rfl, hb1, hb2, hcc⟩ := hc k hlt
      obtain ⟨cs, -, hcs, e4⟩ := hcc k hlt
      have e5 : cs = Attr.enc attrs[k] := e4
      rw [e5] at hcs
      have Hst := Lib.hid (firsts_take hlt)
      have Hlen := Lib.hid (Hnm.out _ (List.getElem_mem hlt))
      have Hidr := Lib.hid (HidA.out _ (List.getElem_mem hlt))
      generalize attrs[k] = a at *
      obtain ⟨U, hU⟩ : ∃ U, U = firstsP (attrs.take k) := ⟨_, rfl⟩
      rw [← hU] at HPo Hus Hst
      have HU := Lib.hid hU
      have Hul : Hid (U.length ≤ 50) := Lib.hid (by have := Hus.out.1; rw [List.length_take] at this; omega)
      obtain ⟨p9, c9, e9⟩ := Own.slice HPo.out.own
      subst e9
      obtain ⟨iq, hiq⟩ : ∃ iq, iq = (U.findIdx? (byName a.name)).isSome := ⟨_, rfl⟩
      have Hiq := Lib.hid hiq
      have hcs2 : CellsAt wo b (off + k * 7) [.int .i64 a.id, .string ⟨a.name.toArray⟩, .int .i64 a.type, .bool a.many, .int .i64 a.unique, .bool a.part, .bool a.index] := hcs
      have Hcs := Lib.hid hcs2
      have Hbl : Hid (b < wo.heap.size) := Lib.hid (by omega)
      have Hbw : Hid (b < w.heap.size) := Lib.hid hb2
      obtain ⟨x0, x1, x2, x3, x4, x5, x6⟩ := hcs2.c7
      clear hU hiq hcs hcs2 hc hcc e2 e4 e5 hb1 hb2 Hx
      obtain ⟨A, hA2⟩ : ∃ A, A = findA U (U.findIdx? (byName a.name)) := ⟨_, rfl⟩
      have HA := Lib.hid hA2
      have Hat : Hid (Attrs (B + 1) wo.heap.size wo (.slice p9 U.length c9) U) := Lib.hid (Sl.ofOwn Attr.enc_len HPo.out.own)
      have Hul63 := Hat.out.len
      clear hA2 x0 x1 x2 x3 x4 x5 x6
      go_upto_region 11 with fail
      refine region_meet (ι := Nat) (fun b7 => [(36, .pointer (some ⟨B, 0, none⟩)), (37, .pointer (some ⟨B, 0, none⟩)), (38, .pointer (some ⟨B, 1, none⟩)), (39, .slice p9 U.length c9), (40, .slice (some ⟨b, off, none⟩) attrs.length ca), (41, .int .i64 ((k : Int))), (42, .pointer (some ⟨b, off + k * 7, none⟩)), (43, .pointer (some ⟨b, off + k * 7 + 1, none⟩)), (44, .string ⟨a.name.toArray⟩), (45, .tuple #[.agg #[.int .i64 A.id, .string ⟨A.name.toArray⟩, .int .i64 A.type, .bool A.many, .int .i64 A.unique, .bool A.part, .bool A.index], .bool iq]), (35, .tuple #[.agg #[.int .i64 A.id, .string ⟨A.name.toArray⟩, .int .i64 A.type, .bool A.many, .int .i64 A.unique, .bool A.part, .bool A.index], .bool iq]), (46, .agg #[.int .i64 A.id, .string ⟨A.name.toArray⟩, .int .i64 A.type, .bool A.many, .int .i64 A.unique, .bool A.part, .bool A.index]), (47, .bool iq), (14, .pointer (some ⟨b7, 0, none⟩)), (15, .bool iq)]) (fun b7 w' => Below wo.heap.size wo w' ∧ Blk w' b7 [.int .i64 A.id, .string ⟨A.name.toArray⟩, .int .i64 A.type, .bool A.many, .int .i64 A.unique, .bool A.part, .bool A.index] 28) ?_ ?_
      · refine wp_region_held_drew (S := fun w' => Below wo.heap.size wo w') (by kernel_rfl) (Below.refl _ _).drew (fun hHeld => ?_)
        refine wpAnyH_take (i := 0) (v := .pointer (some ⟨B, 0, none⟩)) rfl (by kernel_rfl) (by kernel_rfl) (by kernel_rfl) (fun _ _ _ h => h) (Or.inl ⟨by rfl, ?_⟩) hHeld ?_
        · intro w' hSw; go_simp
        try simp only [ν1, ν2, ν3, ν4, ν5, ν6, ν7, ν8]
        refine wpAnyH_take (i := 1) (v := .pointer (some ⟨B, 0, none⟩)) rfl (by kernel_rfl) (by kernel_rfl) (by kernel_rfl) (fun _ _ _ h => h) (Or.inl ⟨by rfl, ?_⟩) hHeld ?_
        · intro w' hSw; go_simp
        try simp only [ν1, ν2, ν3, ν4, ν5, ν6, ν7, ν8]
        refine wpAnyH_take (i := 2) (v := .pointer (some ⟨B, 1, none⟩)) rfl (by kernel_rfl) (by kernel_rfl) (by kernel_rfl) (fun _ _ _ h => h) (Or.inl ⟨by rfl, ?_⟩) hHeld ?_
        · intro w' hSw; go_simp
        try simp only [ν1, ν2, ν3, ν4, ν5, ν6, ν7, ν8]
        refine wpAnyH_take (i := 3) (v := .slice p9 U.length c9) rfl (by kernel_rfl) (by kernel_rfl) (by kernel_rfl) (fun _ _ _ h => h) (Or.inl ⟨by rfl, ?_⟩) hHeld ?_
        · intro w' hSw; have k1 := (HPo.out.step hSw).blk.cells 1 _ rfl; simp only [Nat.zero_add] at k1; go_simp
        try simp only [ν1, ν2, ν3, ν4, ν5, ν6, ν7, ν8]
        refine wpAnyH_take (i := 4) (v := .slice (some ⟨b, off, none⟩) attrs.length ca) rfl (by kernel_rfl) (by kernel_rfl) (by kernel_rfl) (fun _ _ _ h => h) (Or.inl ⟨by rfl, ?_⟩) hHeld ?_
        · intro w' hSw; go_simp
        try simp only [ν1, ν2, ν3, ν4, ν5, ν6, ν7, ν8]
        refine wpAnyH_take (i := 5) (v := .int .i64 ((k : Int))) rfl (by kernel_rfl) (by kernel_rfl) (by kernel_rfl) (fun _ _ _ h => h) (Or.inl ⟨by rfl, ?_⟩) hHeld ?_
        · intro w' hSw; go_simp
        try simp only [ν1, ν2, ν3, ν4, ν5, ν6, ν7, ν8]
        refine wpAnyH_take (i := 6) (v := .pointer (some ⟨b, off + k * 7, none⟩)) rfl (by kernel_rfl) (by kernel_rfl) (by kernel_rfl) (fun _ _ _ h => h) (Or.inl ⟨by rfl, ?_⟩) hHeld ?_
        · intro w' hSw; go_simp
        try simp only [ν1, ν2, ν3, ν4, ν5, ν6, ν7, ν8]
        refine wpAnyH_take (i := 7) (v := .pointer (some ⟨b, off + k * 7 + 1, none⟩)) rfl (by kernel_rfl) (by kernel_rfl) (by kernel_rfl) (fun _ _ _ h => h) (Or.inl ⟨by rfl, ?_⟩) hHeld ?_
        · intro w' hSw; go_simp
        try simp only [ν1, ν2, ν3, ν4, ν5, ν6, ν7, ν8]
        refine wpAnyH_take (i := 8) (v := .string ⟨a.name.toArray⟩) rfl (by kernel_rfl) (by kernel_rfl) (by kernel_rfl) (fun _ _ _ h => h) (Or.inl ⟨by rfl, ?_⟩) hHeld ?_
        · intro w' hSw; have kc := Hcs.out.agree (.below hSw (Nat.le_refl _)) (Nat.zero_le _) Hbl.out; obtain ⟨k0, k1, k2, k3, k4, k5, k6⟩ := kc.c7; go_simp
        try simp only [ν1, ν2, ν3, ν4, ν5, ν6, ν7, ν8]
        refine wpAnyH_ready (rs := [9, 13]) (by kernel_rfl) (by simp) ?_
        refine allCall (f := 18) (args := #[.slice p9 U.length c9, .string ⟨a.name.toArray⟩]) rfl (by kernel_rfl) (by kernel_rfl) ?_ ?_
        · refine refByName_any (B + 1) wo.heap.size _ U a.name wo.drew (Sl.below Hat.out Attrs.loc hHeld (Nat.le_refl _)) hHeld.size _ (fun wm1  hB => ?_)
          rw [← HA.out, ← Hiq.out]
          refine ⟨_, rfl, hHeld.trans (hB.mono hHeld.size), ?_⟩
          have hHeld2 := hHeld.trans (hB.mono hHeld.size)
          clear hHeld
          have hHeld := hHeld2
          clear hHeld2 hB
          try simp only [ν1, ν2, ν3, ν4, ν5, ν6, ν7, ν8]
          refine wpAnyH_take (i := 10) (v := .tuple #[.agg #[.int .i64 A.id, .string ⟨A.name.toArray⟩, .int .i64 A.type, .bool A.many, .int .i64 A.unique, .bool A.part, .bool A.index], .bool iq]) rfl (by kernel_rfl) (by kernel_rfl) (by kernel_rfl) (fun _ _ _ h => h) (Or.inl ⟨by rfl, ?_⟩) hHeld ?_
          · intro w' hSw; go_simp
          try simp only [ν1, ν2, ν3, ν4, ν5, ν6, ν7, ν8]
          refine wpAnyH_take (i := 11) (v := .agg #[.int .i64 A.id, .string ⟨A.name.toArray⟩, .int .i64 A.type, .bool A.many, .int .i64 A.unique, .bool A.part, .bool A.index]) rfl (by kernel_rfl) (by kernel_rfl) (by kernel_rfl) (fun _ _ _ h => h) (Or.inl ⟨by rfl, ?_⟩) hHeld ?_
          · intro w' hSw; go_simp
          try simp only [ν1, ν2, ν3, ν4, ν5, ν6, ν7, ν8]
          refine wpAnyH_take (i := 12) (v := .bool iq) rfl (by kernel_rfl) (by kernel_rfl) (by kernel_rfl) (fun _ _ _ h => h) (Or.inl ⟨by rfl, ?_⟩) hHeld ?_
          · intro w' hSw; go_simp
          try simp only [ν1, ν2, ν3, ν4, ν5, ν6, ν7, ν8]
          refine wpAnyH_ready (rs := [13]) (by kernel_rfl) (by simp) ?_
          refine allVal (v := .pointer (some ⟨wm1.heap.size, 0, none⟩)) (w' := wm1.alloc (.cells #[.int .i64 0, .string ⟨#[]⟩, .int .i64 0, .bool false, .int .i64 0, .bool false, .bool false] 28)) rfl (by kernel_rfl) (by go_simp) (hHeld.trans ((alloc_below wm1 (.cells #[.int .i64 0, .string ⟨#[]⟩, .int .i64 0, .bool false, .int .i64 0, .bool false, .bool false] 28)).mono hHeld.size)) ?_ AllReadyH.nil
          have hB := alloc_below wm1 (.cells #[.int .i64 0, .string ⟨#[]⟩, .int .i64 0, .bool false, .int .i64 0, .bool false, .bool false] 28)
          have hbn := Blk.new wm1 [.int .i64 0, .string ⟨#[]⟩, .int .i64 0, .bool false, .int .i64 0, .bool false, .bool false] 28 rfl
          have hbkl := hHeld.size
          generalize wm1.alloc (.cells #[.int .i64 0, .string ⟨#[]⟩, .int .i64 0, .bool false, .int .i64 0, .bool false, .bool false] 28) = wm2 at *
          obtain ⟨b7, eb⟩ : ∃ b, b = wm1.heap.size := ⟨_, rfl⟩
          rw [← eb] at hbn hbkl ⊢
          clear eb
          have hHeld2 := hHeld.trans (hB.mono hHeld.size)
          clear hHeld
          have hHeld := hHeld2
          clear hHeld2 hB
          have hbk := hbn
          clear hbn
          try simp only [ν1, ν2, ν3, ν4, ν5, ν6, ν7, ν8]
          refine wpAnyH_ready (rs := [14]) (by kernel_rfl) (by simp) ?_
          have zc := hbk.cells
          have z0 := zc 0 _ rfl
          have z1 := zc 1 _ rfl
          have z2 := zc 2 _ rfl
          have z3 := zc 3 _ rfl
          have z4 := zc 4 _ rfl
          have z5 := zc 5 _ rfl
          have z6 := zc 6 _ rfl
          simp only [Nat.zero_add] at z0 z1 z2 z3 z4 z5 z6
          have zl := hbk.lt
          have zf0 := hbk.free 0
          have zf1 := hbk.free 1
          have zf2 := hbk.free 2
          have zf3 := hbk.free 3
          have zf4 := hbk.free 4
          have zf5 := hbk.free 5
          have zf6 := hbk.free 6
          refine allSkip (w' := (((((((wm2.setCell ⟨b7, 0, none⟩ (.int .i64 A.id)).setCell ⟨b7, 1, none⟩ (.string ⟨A.name.toArray⟩)).setCell ⟨b7, 2, none⟩ (.int .i64 A.type)).setCell ⟨b7, 3, none⟩ (.bool A.many)).setCell ⟨b7, 4, none⟩ (.int .i64 A.unique)).setCell ⟨b7, 5, none⟩ (.bool A.part)).setCell ⟨b7, 6, none⟩ (.bool A.index))) rfl (by kernel_rfl) (by go_simp) (((((((hHeld.setCell (p := ⟨b7, 0, none⟩) hbkl (.int .i64 A.id)).setCell (p := ⟨b7, 1, none⟩) hbkl (.string ⟨A.name.toArray⟩)).setCell (p := ⟨b7, 2, none⟩) hbkl (.int .i64 A.type)).setCell (p := ⟨b7, 3, none⟩) hbkl (.bool A.many)).setCell (p := ⟨b7, 4, none⟩) hbkl (.int .i64 A.unique)).setCell (p := ⟨b7, 5, none⟩) hbkl (.bool A.part)).setCell (p := ⟨b7, 6, none⟩) hbkl (.bool A.index)) ?_ AllReadyH.nil
          have hHeld2 := (((((((hHeld.setCell (p := ⟨b7, 0, none⟩) hbkl (.int .i64 A.id)).setCell (p := ⟨b7, 1, none⟩) hbkl (.string ⟨A.name.toArray⟩)).setCell (p := ⟨b7, 2, none⟩) hbkl (.int .i64 A.type)).setCell (p := ⟨b7, 3, none⟩) hbkl (.bool A.many)).setCell (p := ⟨b7, 4, none⟩) hbkl (.int .i64 A.unique)).setCell (p := ⟨b7, 5, none⟩) hbkl (.bool A.part)).setCell (p := ⟨b7, 6, none⟩) hbkl (.bool A.index))
          have hbn : Blk (((((((wm2.setCell ⟨b7, 0, none⟩ (.int .i64 A.id)).setCell ⟨b7, 1, none⟩ (.string ⟨A.name.toArray⟩)).setCell ⟨b7, 2, none⟩ (.int .i64 A.type)).setCell ⟨b7, 3, none⟩ (.bool A.many)).setCell ⟨b7, 4, none⟩ (.int .i64 A.unique)).setCell ⟨b7, 5, none⟩ (.bool A.part)).setCell ⟨b7, 6, none⟩ (.bool A.index)) b7 [.int .i64 A.id, .string ⟨A.name.toArray⟩, .int .i64 A.type, .bool A.many, .int .i64 A.unique, .bool A.part, .bool A.index] 28 := (((((((hbk.set 0 (.int .i64 A.id)).set 1 (.string ⟨A.name.toArray⟩)).set 2 (.int .i64 A.type)).set 3 (.bool A.many)).set 4 (.int .i64 A.unique)).set 5 (.bool A.part)).set 6 (.bool A.index))
          clear hHeld hbk zc zl z0 z1 z2 z3 z4 z5 z6 zf0 zf1 zf2 zf3 zf4 zf5 zf6
          have hHeld := hHeld2
          have hbk := hbn
          clear hHeld2 hbn
          generalize (((((((wm2.setCell ⟨b7, 0, none⟩ (.int .i64 A.id)).setCell ⟨b7, 1, none⟩ (.string ⟨A.name.toArray⟩)).setCell ⟨b7, 2, none⟩ (.int .i64 A.type)).setCell ⟨b7, 3, none⟩ (.bool A.many)).setCell ⟨b7, 4, none⟩ (.int .i64 A.unique)).setCell ⟨b7, 5, none⟩ (.bool A.part)).setCell ⟨b7, 6, none⟩ (.bool A.index)) = wm3 at *
          try simp only [ν1, ν2, ν3, ν4, ν5, ν6, ν7, ν8]
          refine wpAnyH_take (i := 15) (v := .bool iq) rfl (by kernel_rfl) (by kernel_rfl) (by kernel_rfl) (fun _ _ _ h => h) (Or.inl ⟨by rfl, ?_⟩) hHeld ?_
          · intro w' hSw; go_simp
          try simp only [ν1, ν2, ν3, ν4, ν5, ν6, ν7, ν8]
          refine wpAnyH_done (by kernel_rfl) ?_ _
          exact ⟨b7, by kernel_rfl, ⟨hHeld, hbk⟩⟩
        refine allVal (v := .pointer (some ⟨wo.drew.heap.size, 0, none⟩)) (w' := wo.drew.alloc (.cells #[.int .i64 0, .string ⟨#[]⟩, .int .i64 0, .bool false, .int .i64 0, .bool false, .bool false] 28)) rfl (by kernel_rfl) (by go_simp) (hHeld.trans ((alloc_below wo.drew (.cells #[.int .i64 0, .string ⟨#[]⟩, .int .i64 0, .bool false, .int .i64 0, .bool false, .bool false] 28)).mono hHeld.size)) ?_ AllReadyH.nil
        have hB := alloc_below wo.drew (.cells #[.int .i64 0, .string ⟨#[]⟩, .int .i64 0, .bool false, .int .i64 0, .bool false, .bool false] 28)
        have hbn := Blk.new wo.drew [.int .i64 0, .string ⟨#[]⟩, .int .i64 0, .bool false, .int .i64 0, .bool false, .bool false] 28 rfl
        have hbkl := hHeld.size
        generalize wo.drew.alloc (.cells #[.int .i64 0, .string ⟨#[]⟩, .int .i64 0, .bool false, .int .i64 0, .bool false, .bool false] 28) = wm4 at *
        obtain ⟨b7, eb⟩ : ∃ b, b = wo.drew.heap.size := ⟨_, rfl⟩
        rw [← eb] at hbn hbkl ⊢
        clear eb
        have hHeld2 := hHeld.trans (hB.mono hHeld.size)
        clear hHeld
        have hHeld := hHeld2
        clear hHeld2 hB
        have hbk := hbn
        clear hbn
        try simp only [ν1, ν2, ν3, ν4, ν5, ν6, ν7, ν8]
        refine wpAnyH_ready (rs := [9]) (by kernel_rfl) (by simp) ?_
        refine allCall (f := 18) (args := #[.slice p9 U.length c9, .string ⟨a.name.toArray⟩]) rfl (by kernel_rfl) (by kernel_rfl) ?_ AllReadyH.nil
        refine refByName_any (B + 1) wo.heap.size _ U a.name wm4 (Sl.below Hat.out Attrs.loc hHeld (Nat.le_refl _)) hHeld.size _ (fun wm5  hB => ?_)
        rw [← HA.out, ← Hiq.out]
        refine ⟨_, rfl, hHeld.trans (hB.mono hHeld.size), ?_⟩
        replace hbk := hbk.below hB hbk.lt
        have hHeld2 := hHeld.trans (hB.mono hHeld.size)
        clear hHeld
        have hHeld := hHeld2
        clear hHeld2 hB
        try simp only [ν1, ν2, ν3, ν4, ν5, ν6, ν7, ν8]
        refine wpAnyH_take (i := 10) (v := .tuple #[.agg #[.int .i64 A.id, .string ⟨A.name.toArray⟩, .int .i64 A.type, .bool A.many, .int .i64 A.unique, .bool A.part, .bool A.index], .bool iq]) rfl (by kernel_rfl) (by kernel_rfl) (by kernel_rfl) (fun _ _ _ h => h) (Or.inl ⟨by rfl, ?_⟩) hHeld ?_
        · intro w' hSw; go_simp
        try simp only [ν1, ν2, ν3, ν4, ν5, ν6, ν7, ν8]
        refine wpAnyH_take (i := 11) (v := .agg #[.int .i64 A.id, .string ⟨A.name.toArray⟩, .int .i64 A.type, .bool A.many, .int .i64 A.unique, .bool A.part, .bool A.index]) rfl (by kernel_rfl) (by kernel_rfl) (by kernel_rfl) (fun _ _ _ h => h) (Or.inl ⟨by rfl, ?_⟩) hHeld ?_
        · intro w' hSw; go_simp
        try simp only [ν1, ν2, ν3, ν4, ν5, ν6, ν7, ν8]
        refine wpAnyH_take (i := 12) (v := .bool iq) rfl (by kernel_rfl) (by kernel_rfl) (by kernel_rfl) (fun _ _ _ h => h) (Or.inl ⟨by rfl, ?_⟩) hHeld ?_
        · intro w' hSw; go_simp
        try simp only [ν1, ν2, ν3, ν4, ν5, ν6, ν7, ν8]
        refine wpAnyH_ready (rs := [14]) (by kernel_rfl) (by simp) ?_
        have zc := hbk.cells
        have z0 := zc 0 _ rfl
        have z1 := zc 1 _ rfl
        have z2 := zc 2 _ rfl
        have z3 := zc 3 _ rfl
        have z4 := zc 4 _ rfl
        have z5 := zc 5 _ rfl
        have z6 := zc 6 _ rfl
        simp only [Nat.zero_add] at z0 z1 z2 z3 z4 z5 z6
        have zl := hbk.lt
        have zf0 := hbk.free 0
        have zf1 := hbk.free 1
        have zf2 := hbk.free 2
        have zf3 := hbk.free 3
        have zf4 := hbk.free 4
        have zf5 := hbk.free 5
        have zf6 := hbk.free 6
        refine allSkip (w' := (((((((wm5.setCell ⟨b7, 0, none⟩ (.int .i64 A.id)).setCell ⟨b7, 1, none⟩ (.string ⟨A.name.toArray⟩)).setCell ⟨b7, 2, none⟩ (.int .i64 A.type)).setCell ⟨b7, 3, none⟩ (.bool A.many)).setCell ⟨b7, 4, none⟩ (.int .i64 A.unique)).setCell ⟨b7, 5, none⟩ (.bool A.part)).setCell ⟨b7, 6, none⟩ (.bool A.index))) rfl (by kernel_rfl) (by go_simp) (((((((hHeld.setCell (p := ⟨b7, 0, none⟩) hbkl (.int .i64 A.id)).setCell (p := ⟨b7, 1, none⟩) hbkl (.string ⟨A.name.toArray⟩)).setCell (p := ⟨b7, 2, none⟩) hbkl (.int .i64 A.type)).setCell (p := ⟨b7, 3, none⟩) hbkl (.bool A.many)).setCell (p := ⟨b7, 4, none⟩) hbkl (.int .i64 A.unique)).setCell (p := ⟨b7, 5, none⟩) hbkl (.bool A.part)).setCell (p := ⟨b7, 6, none⟩) hbkl (.bool A.index)) ?_ AllReadyH.nil
        have hHeld2 := (((((((hHeld.setCell (p := ⟨b7, 0, none⟩) hbkl (.int .i64 A.id)).setCell (p := ⟨b7, 1, none⟩) hbkl (.string ⟨A.name.toArray⟩)).setCell (p := ⟨b7, 2, none⟩) hbkl (.int .i64 A.type)).setCell (p := ⟨b7, 3, none⟩) hbkl (.bool A.many)).setCell (p := ⟨b7, 4, none⟩) hbkl (.int .i64 A.unique)).setCell (p := ⟨b7, 5, none⟩) hbkl (.bool A.part)).setCell (p := ⟨b7, 6, none⟩) hbkl (.bool A.index))
        have hbn : Blk (((((((wm5.setCell ⟨b7, 0, none⟩ (.int .i64 A.id)).setCell ⟨b7, 1, none⟩ (.string ⟨A.name.toArray⟩)).setCell ⟨b7, 2, none⟩ (.int .i64 A.type)).setCell ⟨b7, 3, none⟩ (.bool A.many)).setCell ⟨b7, 4, none⟩ (.int .i64 A.unique)).setCell ⟨b7, 5, none⟩ (.bool A.part)).setCell ⟨b7, 6, none⟩ (.bool A.index)) b7 [.int .i64 A.id, .string ⟨A.name.toArray⟩, .int .i64 A.type, .bool A.many, .int .i64 A.unique, .bool A.part, .bool A.index] 28 := (((((((hbk.set 0 (.int .i64 A.id)).set 1 (.string ⟨A.name.toArray⟩)).set 2 (.int .i64 A.type)).set 3 (.bool A.many)).set 4 (.int .i64 A.unique)).set 5 (.bool A.part)).set 6 (.bool A.index))
        clear hHeld hbk zc zl z0 z1 z2 z3 z4 z5 z6 zf0 zf1 zf2 zf3 zf4 zf5 zf6
        have hHeld := hHeld2
        have hbk := hbn
        clear hHeld2 hbn
        generalize (((((((wm5.setCell ⟨b7, 0, none⟩ (.int .i64 A.id)).setCell ⟨b7, 1, none⟩ (.string ⟨A.name.toArray⟩)).setCell ⟨b7, 2, none⟩ (.int .i64 A.type)).setCell ⟨b7, 3, none⟩ (.bool A.many)).setCell ⟨b7, 4, none⟩ (.int .i64 A.unique)).setCell ⟨b7, 5, none⟩ (.bool A.part)).setCell ⟨b7, 6, none⟩ (.bool A.index)) = wm6 at *
        try simp only [ν1, ν2, ν3, ν4, ν5, ν6, ν7, ν8]
        refine wpAnyH_take (i := 15) (v := .bool iq) rfl (by kernel_rfl) (by kernel_rfl) (by kernel_rfl) (fun _ _ _ h => h) (Or.inl ⟨by rfl, ?_⟩) hHeld ?_
        · intro w' hSw; go_simp
        try simp only [ν1, ν2, ν3, ν4, ν5, ν6, ν7, ν8]
        refine wpAnyH_done (by kernel_rfl) ?_ _
        exact ⟨b7, by kernel_rfl, ⟨hHeld, hbk⟩⟩
      rintro b7 wz ⟨hB, hbk⟩
      simp only [List.foldl_cons, List.foldl_nil]
      try simp only [ν1, ν2, ν3, ν4, ν5, ν6, ν7, ν8]
      have HP6 := Lib.hid (HPo.out.step hB)
      have Hcs6 := Lib.hid (Hcs.out.agree (.below hB (Nat.le_refl _)) (Nat.zero_le _) Hbl.out)
      have hz6 := hB.size
      obtain ⟨w6, ew6⟩ : ∃ x, x = wz := ⟨_, rfl⟩
      subst ew6
      have Hbl : Hid (b < w.heap.size) := Lib.hid Hbw.out
      have Hhi6 : Hid (w.heap.size ≤ w6.heap.size) := Lib.hid (by omega)
      have Hna : Hid (∀ g, (g = B ∨ Value.ownBlock (.slice p9 U.length c9) = some g) → g < 0 ∨ w.heap.size ≤ g) := Lib.hid (fun g hg => by
        have h1 := HP6.out.mb
        rcases hg with hg | hg
        · omega
        · have := (Own.lt HP6.out.own g hg).1; omega)
      clear hB hbk
      cases iq with
      | true =>
        have Hn : Hid (firstsP (attrs.take (k + 1)) = U) := Lib.hid (by rw [Hst.out]; unfold addA; rw [if_pos Hiq.out.symm])
        go_wp2_with fail
        go_roundw
        case rel => exact ⟨k + 1, _, by omega, by go_num, by rw [Hn.out]; exact HP6.out⟩
        case measure => simp [intOf]; omega
      | false =>
        have Hn : Hid (firstsP (attrs.take (k + 1)) = U ++ [a]) := Lib.hid (by rw [Hst.out]; unfold addA; rw [if_neg (by rw [← Hiq.out]; decide)])
        go_upto_region 13 with fail
        refine region_meet (ι := Nat × Value) (fun ⟨bn, v8⟩ => [(50, .pointer (some ⟨B, 0, none⟩)), (51, .pointer (some ⟨B, 0, none⟩)), (52, .pointer (some ⟨B, 0, none⟩)), (53, .pointer (some ⟨B, 1, none⟩)), (54, .slice p9 U.length c9), (55, .slice (some ⟨b, off, none⟩) attrs.length ca), (56, .int .i64 ((k : Int))), (57, .pointer (some ⟨b, off + k * 7, none⟩)), (58, .agg #[.int .i64 (a.id), .string ⟨a.name.toArray⟩, .int .i64 (a.type), .bool a.many, .int .i64 (a.unique), .bool a.part, .bool a.index]), (59, .slice (some ⟨bn, 0, none⟩) 1 1), (60, v8), (61, .pointer (some ⟨B, 0, none⟩)), (62, .pointer (some ⟨B, 1, none⟩))]) (fun ⟨bn, v8⟩ w' => Only (fun k => k = B ∨ Value.ownBlock (.slice p9 U.length c9) = some k) w6 w' ∧ RAt B w w' vlx v8 (U ++ [a])) ?_ ?_
        · refine wp_region_held_drew (S := fun w' => Only (fun k => k = B ∨ Value.ownBlock (.slice p9 U.length c9) = some k) w6 w') (by kernel_rfl) (Only.drew _) (fun hHeld => ?_)
          have hPd := HP6.out.step (Below.refl _ _).drew
          have hOd : Only (fun k => k = B ∨ Value.ownBlock (.slice p9 U.length c9) = some k) w6 w6.drew := Only.drew _
          generalize w6.drew = wd at *
          refine wpAnyH_take (i := 0) (v := .pointer (some ⟨B, 0, none⟩)) rfl (by kernel_rfl) (by kernel_rfl) (by kernel_rfl) (fun _ _ _ h => h) (Or.inl ⟨by rfl, ?_⟩) hHeld ?_
          · intro w' hSw; go_simp
          try simp only [ν1, ν2, ν3, ν4, ν5, ν6, ν7, ν8]
          refine wpAnyH_take (i := 1) (v := .pointer (some ⟨B, 0, none⟩)) rfl (by kernel_rfl) (by kernel_rfl) (by kernel_rfl) (fun _ _ _ h => h) (Or.inl ⟨by rfl, ?_⟩) hHeld ?_
          · intro w' hSw; go_simp
          try simp only [ν1, ν2, ν3, ν4, ν5, ν6, ν7, ν8]
          refine wpAnyH_take (i := 2) (v := .pointer (some ⟨B, 0, none⟩)) rfl (by kernel_rfl) (by kernel_rfl) (by kernel_rfl) (fun _ _ _ h => h) (Or.inl ⟨by rfl, ?_⟩) hHeld ?_
          · intro w' hSw; go_simp
          try simp only [ν1, ν2, ν3, ν4, ν5, ν6, ν7, ν8]
          refine wpAnyH_take (i := 3) (v := .pointer (some ⟨B, 1, none⟩)) rfl (by kernel_rfl) (by kernel_rfl) (by kernel_rfl) (fun _ _ _ h => h) (Or.inl ⟨by rfl, ?_⟩) hHeld ?_
          · intro w' hSw; go_simp
          try simp only [ν1, ν2, ν3, ν4, ν5, ν6, ν7, ν8]
          refine wpAnyH_take (i := 5) (v := .slice (some ⟨b, off, none⟩) attrs.length ca) rfl (by kernel_rfl) (by kernel_rfl) (by kernel_rfl) (fun _ _ _ h => h) (Or.inl ⟨by rfl, ?_⟩) hHeld ?_
          · intro w' hSw; go_simp
          try simp only [ν1, ν2, ν3, ν4, ν5, ν6, ν7, ν8]
          refine wpAnyH_take (i := 6) (v := .int .i64 ((k : Int))) rfl (by kernel_rfl) (by kernel_rfl) (by kernel_rfl) (fun _ _ _ h => h) (Or.inl ⟨by rfl, ?_⟩) hHeld ?_
          · intro w' hSw; go_simp
          try simp only [ν1, ν2, ν3, ν4, ν5, ν6, ν7, ν8]
          refine wpAnyH_take (i := 7) (v := .pointer (some ⟨b, off + k * 7, none⟩)) rfl (by kernel_rfl) (by kernel_rfl) (by kernel_rfl) (fun _ _ _ h => h) (Or.inl ⟨by rfl, ?_⟩) hHeld ?_
          · intro w' hSw; go_simp
          try simp only [ν1, ν2, ν3, ν4, ν5, ν6, ν7, ν8]
          refine wpAnyH_take (i := 8) (v := .agg #[.int .i64 (a.id), .string ⟨a.name.toArray⟩, .int .i64 (a.type), .bool a.many, .int .i64 (a.unique), .bool a.part, .bool a.index]) rfl (by kernel_rfl) (by kernel_rfl) (by kernel_rfl) (fun _ _ _ h => h) (Or.inl ⟨by rfl, ?_⟩) hHeld ?_
          · intro w' hSw; have kc := Hcs6.out.agree (hSw.agree Hhi6.out Hna.out) (Nat.zero_le _) Hbl.out; obtain ⟨k0, k1, k2, k3, k4, k5, k6⟩ := kc.c7; go_simp
          try simp only [ν1, ν2, ν3, ν4, ν5, ν6, ν7, ν8]
          refine wpAnyH_ready (rs := [4, 9]) (by kernel_rfl) (by simp) ?_
          refine allVal (v := .slice p9 U.length c9) (w' := wd) rfl (by kernel_rfl) (by have kc := hPd.blk.cells; have k2 := kc 1 _ rfl; simp only [Nat.zero_add] at k2; go_simp) hHeld ?_ ?_
          · try simp only [ν1, ν2, ν3, ν4, ν5, ν6, ν7, ν8]
            refine wpAnyH_ready (rs := [9]) (by kernel_rfl) (by simp) ?_
            have hH7 : Only (fun k => k = B ∨ Value.ownBlock (.slice p9 U.length c9) = some k) w6 (wd.alloc (.cells #[.int .i64 a.id, .string ⟨a.name.toArray⟩, .int .i64 a.type, .bool a.many, .int .i64 a.unique, .bool a.part, .bool a.index] 28)) := hHeld.trans (Only.alloc wd _)
            refine allVal (v := .slice (some ⟨wd.heap.size, 0, none⟩) 1 1) (w' := wd.alloc (.cells #[.int .i64 a.id, .string ⟨a.name.toArray⟩, .int .i64 a.type, .bool a.many, .int .i64 a.unique, .bool a.part, .bool a.index] 28)) rfl (by kernel_rfl) (by go_simp) hH7 ?_ AllReadyH.nil
            clear hHeld
            have hHeld := hH7
            clear hH7
            have hP7 := hPd.step (alloc_below wd (.cells #[.int .i64 a.id, .string ⟨a.name.toArray⟩, .int .i64 a.type, .bool a.many, .int .i64 a.unique, .bool a.part, .bool a.index] 28))
            obtain ⟨bn, ebn⟩ : ∃ b, b = wd.heap.size := ⟨_, rfl⟩
            rw [← ebn]
            try simp only [ν1, ν2, ν3, ν4, ν5, ν6, ν7, ν8]
            refine wpAnyH_ready (rs := [10]) (by kernel_rfl) (by simp) ?_
            have hown6 := hPd.own
            obtain ⟨v8, w8, hr8, ho8, ha8⟩ := app_one Try.underlying22 infoAt rfl Attr.enc_len Attr.enc_one hown6 a (n := bn) ebn (by have := Hul.out; omega) (by decide) (by have := hPd.blk.lt; exact this)
            simp only [Attr.enc] at hr8
            have hH8 : Only (fun k => k = B ∨ Value.ownBlock (.slice p9 U.length c9) = some k) w6 w8 := (hOd.trans (ha8.only.mono (fun _ _ e => .inr e)))
            refine allVal (v := v8) (w' := w8) rfl (by kernel_rfl) (execApp hr8 rfl rfl rfl) hH8 ?_ AllReadyH.nil
            clear hHeld hr8
            have hHeld := hH8
            clear hH8
            have hbx8 := ha8.blk hPd.blk (fun e => by have := (Own.lt hown6 _ e).1; omega)
            try simp only [ν1, ν2, ν3, ν4, ν5, ν6, ν7, ν8]
            refine wpAnyH_take (i := 11) (v := .pointer (some ⟨B, 0, none⟩)) rfl (by kernel_rfl) (by kernel_rfl) (by kernel_rfl) (fun _ _ _ h => h) (Or.inl ⟨by rfl, ?_⟩) hHeld ?_
            · intro w' hSw; go_simp
            try simp only [ν1, ν2, ν3, ν4, ν5, ν6, ν7, ν8]
            refine wpAnyH_take (i := 12) (v := .pointer (some ⟨B, 1, none⟩)) rfl (by kernel_rfl) (by kernel_rfl) (by kernel_rfl) (fun _ _ _ h => h) (Or.inl ⟨by rfl, ?_⟩) hHeld ?_
            · intro w' hSw; go_simp
            try simp only [ν1, ν2, ν3, ν4, ν5, ν6, ν7, ν8]
            refine wpAnyH_ready (rs := [13]) (by kernel_rfl) (by simp) ?_
            obtain ⟨p8, c8, e8⟩ := Own.slice ho8
            have zc := hbx8.cells 1 _ rfl
            simp only [Nat.zero_add] at zc
            have zl := hbx8.lt
            have zf := hbx8.free 1
            have hH9 : Only (fun k => k = B ∨ Value.ownBlock (.slice p9 U.length c9) = some k) w6 (w8.setCell ⟨B, 1, none⟩ v8) := hHeld.trans (Only.setCell (A := (fun k => k = B ∨ Value.ownBlock (.slice p9 U.length c9) = some k)) w8 (p := ⟨B, 1, none⟩) (.inl rfl) _)
            refine allSkip (w' := (w8.setCell ⟨B, 1, none⟩ v8)) rfl (by kernel_rfl) (by rw [e8]; go_simp) hH9 ?_ AllReadyH.nil
            have hP9 := hPd.app ha8 ho8
            clear hHeld zc zl zf e8
            have hHeld := hH9
            clear hH9
            try simp only [ν1, ν2, ν3, ν4, ν5, ν6, ν7, ν8]
            refine wpAnyH_done (by kernel_rfl) ?_ _
            exact ⟨⟨bn, v8⟩, by kernel_rfl, hHeld, hP9⟩
          have hH7 : Only (fun k => k = B ∨ Value.ownBlock (.slice p9 U.length c9) = some k) w6 (wd.alloc (.cells #[.int .i64 a.id, .string ⟨a.name.toArray⟩, .int .i64 a.type, .bool a.many, .int .i64 a.unique, .bool a.part, .bool a.index] 28)) := hHeld.trans (Only.alloc wd _)
          refine allVal (v := .slice (some ⟨wd.heap.size, 0, none⟩) 1 1) (w' := wd.alloc (.cells #[.int .i64 a.id, .string ⟨a.name.toArray⟩, .int .i64 a.type, .bool a.many, .int .i64 a.unique, .bool a.part, .bool a.index] 28)) rfl (by kernel_rfl) (by go_simp) hH7 ?_ AllReadyH.nil
          clear hHeld
          have hHeld := hH7
          clear hH7
          have hP7 := hPd.step (alloc_below wd (.cells #[.int .i64 a.id, .string ⟨a.name.toArray⟩, .int .i64 a.type, .bool a.many, .int .i64 a.unique, .bool a.part, .bool a.index] 28))
          obtain ⟨bn, ebn⟩ : ∃ b, b = wd.heap.size := ⟨_, rfl⟩
          rw [← ebn]
          try simp only [ν1, ν2, ν3, ν4, ν5, ν6, ν7, ν8]
          refine wpAnyH_ready (rs := [4]) (by kernel_rfl) (by simp) ?_
          refine allVal (v := .slice p9 U.length c9) (w' := (wd.alloc (.cells #[.int .i64 a.id, .string ⟨a.name.toArray⟩, .int .i64 a.type, .bool a.many, .int .i64 a.unique, .bool a.part, .bool a.index] 28))) rfl (by kernel_rfl) (by have kc := hP7.blk.cells; have k2 := kc 1 _ rfl; simp only [Nat.zero_add] at k2; go_simp) hHeld ?_ AllReadyH.nil
          try simp only [ν1, ν2, ν3, ν4, ν5, ν6, ν7, ν8]
          refine wpAnyH_ready (rs := [10]) (by kernel_rfl) (by simp) ?_
          have hown6 := hPd.own
          obtain ⟨v8, w8, hr8, ho8, ha8⟩ := app_one Try.underlying22 infoAt rfl Attr.enc_len Attr.enc_one hown6 a (n := bn) ebn (by have := Hul.out; omega) (by decide) (by have := hPd.blk.lt; exact this)
          simp only [Attr.enc] at hr8
          have hH8 : Only (fun k => k = B ∨ Value.ownBlock (.slice p9 U.length c9) = some k) w6 w8 := (hOd.trans (ha8.only.mono (fun _ _ e => .inr e)))
          refine allVal (v := v8) (w' := w8) rfl (by kernel_rfl) (execApp hr8 rfl rfl rfl) hH8 ?_ AllReadyH.nil
          clear hHeld hr8
          have hHeld := hH8
          clear hH8
          have hbx8 := ha8.blk hPd.blk (fun e => by have := (Own.lt hown6 _ e).1; omega)
          try simp only [ν1, ν2, ν3, ν4, ν5, ν6, ν7, ν8]
          refine wpAnyH_take (i := 11) (v := .pointer (some ⟨B, 0, none⟩)) rfl (by kernel_rfl) (by kernel_rfl) (by kernel_rfl) (fun _ _ _ h => h) (Or.inl ⟨by rfl, ?_⟩) hHeld ?_
          · intro w' hSw; go_simp
          try simp only [ν1, ν2, ν3, ν4, ν5, ν6, ν7, ν8]
          refine wpAnyH_take (i := 12) (v := .pointer (some ⟨B, 1, none⟩)) rfl (by kernel_rfl) (by kernel_rfl) (by kernel_rfl) (fun _ _ _ h => h) (Or.inl ⟨by rfl, ?_⟩) hHeld ?_
          · intro w' hSw; go_simp
          try simp only [ν1, ν2, ν3, ν4, ν5, ν6, ν7, ν8]
          refine wpAnyH_ready (rs := [13]) (by kernel_rfl) (by simp) ?_
          obtain ⟨p8, c8, e8⟩ := Own.slice ho8
          have zc := hbx8.cells 1 _ rfl
          simp only [Nat.zero_add] at zc
          have zl := hbx8.lt
          have zf := hbx8.free 1
          have hH9 : Only (fun k => k = B ∨ Value.ownBlock (.slice p9 U.length c9) = some k) w6 (w8.setCell ⟨B, 1, none⟩ v8) := hHeld.trans (Only.setCell (A := (fun k => k = B ∨ Value.ownBlock (.slice p9 U.length c9) = some k)) w8 (p := ⟨B, 1, none⟩) (.inl rfl) _)
          refine allSkip (w' := (w8.setCell ⟨B, 1, none⟩ v8)) rfl (by kernel_rfl) (by rw [e8]; go_simp) hH9 ?_ AllReadyH.nil
          have hP9 := hPd.app ha8 ho8
          clear hHeld zc zl zf e8
          have hHeld := hH9
          clear hH9
          try simp only [ν1, ν2, ν3, ν4, ν5, ν6, ν7, ν8]
          refine wpAnyH_done (by kernel_rfl) ?_ _
          exact ⟨⟨bn, v8⟩, by kernel_rfl, hHeld, hP9⟩
        rintro ⟨bn, v8⟩ wz ⟨hO9, hP9⟩
        simp only [List.foldl_cons, List.foldl_nil]
        try simp only [ν1, ν2, ν3, ν4, ν5, ν6, ν7, ν8]
        have HP9 := Lib.hid hP9
        clear hO9 hP9
        go_wp2_with fail
        go_roundw
        case rel => exact ⟨k + 1, v8, by omega, by go_num, by rw [Hn.out]; exact HP9.out⟩
        case measure => simp [intOf]; omega
    · have hke : k = attrs.length := by omega
      have kkl : ¬ ((k : Nat) : Int) < (attrs.length : Int) := by omega
      have Hatl := Lib.hid hatl
      rw [List.take_of_length_le (by omega)] at HPo Hus
      obtain ⟨U, hU⟩ : ∃ U, U = firstsP attrs := ⟨_, rfl⟩
      rw [← hU] at HPo Hus
      have HU := Lib.hid hU
      have Hul : Hid (U.length ≤ 50) := Lib.hid (by have := Hus.out.1; omega)
      obtain ⟨p9, c9, e9⟩ := Own.slice HPo.out.own
      subst e9
      have Hvl0 := Lib.hid (Sl.below Hvl.out ftE_loc HPo.out.below (Nat.le_refl _))
      have Hv0 := Lib.hid (Sl.below Hv.out (itE_loc D) HPo.out.below (Nat.le_refl _))
      clear hU hke
      have HX : Hid (PulR B wo.heap.size wo (.slice pl fs.length cl) (.slice p9 U.length c9) fs U 0) := Lib.hid ⟨by have h := HPo.out.blk; rw [Hvlx.out] at h; exact h, Sl.mono Hvl0.out ftE_loc (Nat.le_refl _) HPo.out.mb, Sl.ofOwn Attr.enc_len HPo.out.own, Nat.le_refl _⟩
      have HBo : Hid (Below w.heap.size w wo) := Lib.hid HPo.out.below
      have HwB : Hid (w.heap.size ≤ B ∧ B < wo.heap.size) := Lib.hid ⟨HPo.out.mb, HPo.out.blk.lt⟩
      clear HPo
      go_wp2_with fail
      refine refKnown_any D B wo.heap.size 0 w.heap.size _ _ fs U 0 l _ wo HX.out Hv0.out (by omega) _ (fun w7 hB7 => ?_)
      obtain ⟨kn, hkn⟩ : ∃ kn, kn = knownL U l := ⟨_, rfl⟩
      rw [← hkn]
      have Hkn : Hid (knownL (firstsP attrs) l = kn) := Lib.hid (by rw [hkn, HU.out])
      have HX7 := Lib.hid (HX.out.below hB7)
      have hz7 := hB7.size
      have HB7 : Hid (Below w.heap.size w w7) := Lib.hid (HBo.out.trans (hB7.mono hzo))
      have Hv7 : Hid (Its D 0 B w7 (.slice pv l.length cv) l) := Lib.hid (Sl.mono (Sl.below Hv0.out (itE_loc D) hB7 (by omega)) (itE_loc D) (Nat.le_refl _) HwB.out.1)
      clear hkn hB7
      cases kn with
      | false =>
        have hr := HR.out w7 none 0 0 200 HB7.out (PullOut.e200 Hmp.out.symm Hfb.out.symm Hkn.out)
        go_wp2_with fail
        first | exact hr | exact fin hr rfl
      | true =>
        obtain ⟨ps, hps, hpat⟩ := Pat.of Hv7.out (by have := HwB.out.2; omega) hal
        have Hps := Lib.hid hps
        have hB8 := alloc_below w7 (.cells #[.int .i64 e] 2)
        have hb8 := Blk.new w7 [.int .i64 e] 2 rfl
        have HX8 := Lib.hid (HX7.out.below hB8)
        have Hp8 := Lib.hid (hpat.turn (Below.only hB8))
        have HB8 := Lib.hid (HB7.out.trans (hB8.mono HB7.out.size))
        have hz8 := hB8.size
        have HF : Hid (Fit fs U d 0 [e]) := Lib.hid ⟨hfl, Hul.out, Hus.out.2.2, fun a ha => Hnm.out a (Hus.out.2.1 a ha), Int.le_refl _, by decide, by omega, by omega, by have : ([e] : List Int).length = 1 := rfl; omega⟩
        have Hfine : Hid (finePat (ps.map (·.1)) = true) := Lib.hid (by rw [Hps.out]; exact may_fine Hmp.out.symm)
        clear hps hpat hB8
        go_wp2_with fail
        have Hpa : Hid (Pth B w7.heap.size (w7.heap.size + 1) (w7.alloc (.cells #[.int .i64 e] 2)) (.slice (some ⟨w7.heap.size, 0, none⟩) 1 1) [e]) := Lib.hid ⟨one_int hb8, by have := HwB.out.2; omega, by simp⟩
        generalize w7.alloc (.cells #[.int .i64 e] 2) = w8 at *
        refine refTree_any d B wo.heap.size D 0 B w7.heap.size (w7.heap.size + 1) _ _ fs U 0 e ps [e] _ _ w8 HX8.out Hp8.out Hpa.out HF.out Hfine.out _ (fun w9 n' ta tl tc hO9 hb9 hout => ?_)
        have HB9 : Hid (Below w.heap.size w w9) := Lib.hid (HB8.out.trans (hO9.below HB8.out.size (fun k e => by have : k = B := e; have := HwB.out.1; omega)))
        have hout2 := hout.pull
        rw [Hps.out, HU.out] at hout2
        have zz := hb9.cells 2 _ rfl
        simp only [Nat.zero_add] at zz
        have zl := hb9.lt
        have Hw8 : Hid (w.heap.size ≤ w8.heap.size) := Lib.hid HB8.out.size
        clear hO9 hb9 hout hb8
        rcases hout2 with ⟨h1, h2, h3⟩ | ⟨h1, h2⟩
        · have hr := HR.out w9 ta tl tc 0 HB9.out (PullOut.e0 Hmp.out.symm Hfb.out.symm Hkn.out h1 ((TrIn.loc d).mono h3 Hw8.out (Nat.le_refl _)))
          have hgt : ¬ (10000 : Int) < n' := by omega
          clear h1 h2 h3
          go_wp2_with fail
          first | exact hr | exact fin hr rfl
        · have hr := HR.out w9 none 0 0 201 HB9.out (PullOut.e201 Hmp.out.symm Hfb.out.symm Hkn.out h1)
          clear h1
          go_wp2_with fail
          first | exact hr | exact fin hr rfl
end Go.Proofs.Yticbhfmpnmolcaa
end

/- PullTells' walk, shape.Check's contract given. (Printed by pulaf.py.) -/
section
set_option linter.unusedVariables false
set_option linter.unusedSimpArgs false
namespace Go.Proofs.Yticbhfmpnmolcaa
open Go.RowKit
set_option linter.unusedVariables false
set_option linter.unusedSimpArgs false
/-- Both answers: the same tree in memory twice. -/
theorem both_trees {d : Nat} {attrs : List Attr} {fs : List Ft} {e : Int} {l : List It} {lo lo2 : Nat} {w1 w2 : World} {a a2 : Option Addr} {n n2 c c2 : Nat} {err err2 : Int}
    (h1 : PullOut d attrs fs e l lo w1 a n c err) (h2 : PullOut d attrs fs e l lo2 w2 a2 n2 c2 err2) (hB : Below w1.heap.size w1 w2) :
    err = err2 ∧ ∃ (d' : Nat) (t : Tr d'), TrIn d' 0 w2.heap.size w2 (.slice a n c) t ∧ TrIn d' 0 w2.heap.size w2 (.slice a2 n2 c2) t ∧ Tr.size d' t ≤ 1000000000 := by
  have e1 : err = err2 := h1.code.trans h2.code.symm
  refine ⟨e1, ?_⟩
  by_cases h0 : err = 0
  · obtain ⟨t1, s1⟩ := h1.good h0
    obtain ⟨t2, -⟩ := h2.good (by omega)
    exact ⟨d, _, (TrIn.loc d).mono ((TrIn.loc d).agree t1 (.below hB (Nat.le_refl _))) (Nat.zero_le _) hB.size, (TrIn.loc d).mono t2 (Nat.zero_le _) (Nat.le_refl _), by omega⟩
  · obtain ⟨rfl, rfl, rfl⟩ := h1.bad h0
    obtain ⟨rfl, rfl, rfl⟩ := h2.bad (by omega)
    exact ⟨0, Tr.none 0, TrIn.none 0 _ _ _, TrIn.none 0 _ _ _, by rw [size_none]; decide⟩
theorem great_small {l : List It} (h : greatP l = false) : allL l ≤ 1000 ∧ deepL l ≤ 99 := by
  unfold greatP at h
  have h1 : weighF 61 l ≤ 200 := by simpa using h
  obtain ⟨h2, h3⟩ := weigh_small 61 l h1
  exact ⟨by omega, by omega⟩
set_option maxRecDepth 100000 in
set_option maxHeartbeats 16000000 in
theorem PullTells_at (hSh : PShape) (D : Nat) (attrs : List Attr) (fs : List Ft) (e : Int) (l : List It) (va vl v : Value) (w : World) (hva : Attrs 0 w.heap.size w va attrs) (hvl : Fts 0 w.heap.size w vl fs) (hv : Its D 0 w.heap.size w v l)
    (hfl : fs.length ≤ 2000000000000) (hfv : ∀ x ∈ fs, x.v.s.length ≤ 9223372036854775807) (hnm : ∀ a ∈ attrs, a.name.length ≤ 9223372036854775807) (hid : ∀ a ∈ attrs, -9223372036854775808 ≤ a.id ∧ a.id ≤ 9223372036854775807) (R : Ending → World → Prop)
    (hR : ∀ w', Below w.heap.size w w' → R (.returned (.bool true)) w') :
    Calls Try.prog 3 #[va, vl, .int .i64 e, v] w R := by
  have HR := Lib.hid hR
  have Hva := Lib.hid hva
  have Hvl := Lib.hid hvl
  have Hv := Lib.hid hv
  have Hfv := Lib.hid hfv
  have Hnm := Lib.hid hnm
  have HidA := Lib.hid hid
  obtain ⟨pa, ca, rfl, -⟩ := hva.form
  obtain ⟨pl, cl, rfl, -⟩ := hvl.form
  obtain ⟨pv, cv, rfl, -⟩ := hv.form
  have hal63 := hva.len
  clear hR hva hvl hv hfv hnm hid
  go_enter Try.func3, Try.ntmps3
  go_wp2_with fail
  refine fGreat_any 0 w.heap.size fs _ w Hvl.out (Nat.le_refl _) _ (fun w1 hB1 => ?_)
  obtain ⟨gb, hgb⟩ : ∃ gb, gb = greatB fs := ⟨_, rfl⟩
  rw [← hgb]
  clear hgb
  cases gb with
  | true =>
    have hr := HR.out w1 hB1
    go_wp2_with fail
    all_goals try (rename_i bq h1 h2; exact absurd h1 (undef_ne bq))
    first | exact hr | exact fin hr rfl
  | false =>
  go_wp2_with fail
  have hz1 := hB1.size
  refine pGreat_any D 0 w.heap.size l _ w1 (Sl.below Hv.out (itE_loc D) hB1 (Nat.le_refl _)) hz1 _ (fun w2 hB2 => ?_)
  obtain ⟨gp, hgp⟩ : ∃ gp, gp = greatP l := ⟨_, rfl⟩
  rw [← hgp]
  have Hgp := Lib.hid hgp
  have HB2 := Lib.hid (hB1.trans (hB2.mono hz1))
  clear hgp hB1 hB2
  cases gp with
  | true =>
    have hr := HR.out w2 HB2.out
    go_wp2_with fail
    all_goals try (rename_i bq h1 h2; exact absurd h1 (undef_ne bq))
    first | exact hr | exact fin hr rfl
  | false =>
  have Hsm := Lib.hid (great_small Hgp.out.symm)
  by_cases h50 : 50 < attrs.length
  · have h50' : (50 : Int) < (attrs.length : Int) := by omega
    have hr := HR.out w2 HB2.out
    go_wp2_with fail
    all_goals try (rename_i bq h1 h2; exact absurd h1 (undef_ne bq))
    first | exact hr | exact fin hr rfl
  · have h50' : ¬ (50 : Int) < (attrs.length : Int) := by omega
    go_wp2_with fail
    have hz2 := HB2.out.size
    have Hva2 := Lib.hid (Sl.below Hva.out Attrs.loc HB2.out (Nat.le_refl _))
    go_loopw [9] (fun t9 wr => ∃ (k : Nat), k ≤ attrs.length ∧ t9 = .int .i64 k ∧ w2 = wr ∧ (∀ a ∈ attrs.take k, a.name.length ≤ 100)) (fun t9 _ => attrs.length - (intOf t9).toNat)
    case atStart => exact ⟨0, Nat.zero_le _, rfl, rfl, fun a h => by simp at h⟩
    case round =>
      obtain ⟨k, hk, rfl, rfl, hnk⟩ := hrel
      have Hnk := Lib.hid hnk
      have kk0 : (0 : Int) ≤ (k : Int) := by omega
      clear hnk
      by_cases hlt : k < attrs.length
      · have kkl : (k : Int) < (attrs.length : Int) := by omega
        obtain ⟨ao', cap', e', -, -, -, hc⟩ := Hva2.out.form
        injection e' with e1 e2 e3
        subst e1 e3
        obtain ⟨b, off, rfl, hb1, hb2, hcc⟩ := hc k hlt
        obtain ⟨cs, -, hcs, e4⟩ := hcc k hlt
        have e5 : cs = Attr.enc attrs[k] := e4
        rw [e5] at hcs
        have hn63 := Hnm.out _ (List.getElem_mem hlt)
        have Hst : Hid (attrs[k].name.length ≤ 100 → ∀ a ∈ attrs.take (k + 1), a.name.length ≤ 100) := Lib.hid (fun h a ha => by
          rw [List.take_succ_eq_append_getElem hlt] at ha
          rcases List.mem_append.1 ha with ha | ha
          · exact Hnk.out a ha
          · obtain rfl := List.mem_singleton.1 ha; exact h)
        generalize attrs[k] = a at *
        have hcs2 : CellsAt w2 b (off + k * 7) [.int .i64 a.id, .string ⟨a.name.toArray⟩, .int .i64 a.type, .bool a.many, .int .i64 a.unique, .bool a.part, .bool a.index] := hcs
        obtain ⟨x0, x1, x2, x3, x4, x5, x6⟩ := hcs2.c7
        clear hcs hcs2 hc hcc e2 e4 e5 hb1 hb2 x0 x2 x3 x4 x5 x6
        obtain ⟨nl, hnl⟩ : ∃ nl, nl = a.name.length := ⟨_, rfl⟩
        rw [← hnl] at hn63
        by_cases h100 : 100 < nl
        · have h100' : (100 : Int) < (nl : Int) := by omega
          rw [hnl] at h100' hn63
          have hr := HR.out _ HB2.out
          go_wp2_with fail
          first | exact hr | exact fin hr rfl
        · have h100' : ¬ (100 : Int) < (nl : Int) := by omega
          have Hs2 := Lib.hid (Hst.out (by omega))
          rw [hnl] at h100' hn63
          go_wp2_with fail
          go_roundw
          case rel => exact ⟨k + 1, by omega, by go_num, trivial, Hs2.out⟩
          case measure => simp [intOf]; omega
      · have hke : k = attrs.length := by omega
        have kkl : ¬ ((k : Nat) : Int) < (attrs.length : Int) := by omega
        have Hn100 : Hid (∀ a ∈ attrs, a.name.length ≤ 100) := Lib.hid (by
          have h := Hnk.out
          rwa [List.take_of_length_le (by omega)] at h)
        clear hke
        obtain ⟨d, hd⟩ : ∃ d, d = 10001 := ⟨_, rfl⟩
        have Hvl2 := Lib.hid (Sl.below Hvl.out ftE_loc HB2.out (Nat.le_refl _))
        have Hv2 := Lib.hid (Sl.below Hv.out (itE_loc D) HB2.out (Nat.le_refl _))
        go_wp2_with fail
        refine pPull_any hSh d hd D attrs fs e l _ _ _ w2 (Sl.mono Hva2.out Attrs.loc (Nat.le_refl _) hz2) (Sl.mono Hvl2.out ftE_loc (Nat.le_refl _) hz2) (Sl.mono Hv2.out (itE_loc D) (Nat.le_refl _) hz2) Hsm.out.1 Hsm.out.2 hfl Hfv.out (by omega) (fun a ha => by have := Hn100.out a ha; omega) HidA.out _ (fun w3 pa3 na3 ca3 er3 hB3 hout3 => ?_)
        have HB3 := Lib.hid (HB2.out.trans (hB3.mono hz2))
        have hz3 := HB3.out.size
        have Hout3 := Lib.hid hout3
        clear hB3 hout3
        go_wp2_with fail
        refine refPull_any hSh d hd D attrs fs e l _ _ _ w3 (Sl.mono (Sl.below Hva.out Attrs.loc HB3.out (Nat.le_refl _)) Attrs.loc (Nat.le_refl _) hz3) (Sl.mono (Sl.below Hvl.out ftE_loc HB3.out (Nat.le_refl _)) ftE_loc (Nat.le_refl _) hz3) (Sl.mono (Sl.below Hv.out (itE_loc D) HB3.out (Nat.le_refl _)) (itE_loc D) (Nat.le_refl _) hz3) Hsm.out.1 Hsm.out.2 hfl Hfv.out (by omega) (fun a ha => by have := Hn100.out a ha; omega) HidA.out _ (fun w4 pa4 na4 ca4 er4 hB4 hout4 => ?_)
        obtain ⟨heq, d', t, ht1, ht2, hts⟩ := both_trees Hout3.out hout4 hB4
        subst heq
        have HB4 := Lib.hid (HB3.out.trans (hB4.mono hz3))
        have hz4 := hB4.size
        have Ht1 := Lib.hid ht1
        have Ht2 := Lib.hid ht2
        clear hB4 hout4 ht1 ht2
        go_wp2_with fail
        refine refSame_any d' 0 w4.heap.size 0 w4.heap.size t _ _ w4 Ht1.out Ht2.out (Nat.le_refl _) (Nat.le_refl _) _ (fun w5 hB5 => ?_)
        have hz5 := hB5.size
        have Ht15 := Lib.hid ((TrIn.loc d').agree Ht1.out (.below hB5 (Nat.le_refl _)))
        have Ht25 := Lib.hid ((TrIn.loc d').agree Ht2.out (.below hB5 (Nat.le_refl _)))
        have HB5 := Lib.hid (HB4.out.trans (hB5.mono (by omega)))
        clear hB5
        go_wp2_with fail
        refine pSize_any d' 0 w4.heap.size t _ w5 Ht15.out hz5 hts _ (fun w6 hB6 => ?_)
        have hz6 := hB6.size
        have Ht26 := Lib.hid ((TrIn.loc d').agree Ht25.out (.below (hB6.mono hz5) (Nat.le_refl _)))
        have HB6 := Lib.hid (HB5.out.trans (hB6.mono (by omega)))
        clear hB6
        go_wp2_with fail
        refine refSize_any d' 0 w4.heap.size t _ w6 Ht26.out (by omega) hts _ (fun w7 hB7 => ?_)
        have hr := HR.out w7 (HB6.out.trans (hB7.mono (by omega)))
        clear hB7
        go_wp2_with fail
        all_goals try (rename_i bq h1 h2; exact absurd h1 (undef_ne bq))
        first | exact hr | exact fin hr rfl
end Go.Proofs.Yticbhfmpnmolcaa
end

/- shape.lists and its iterator. (Printed by pulag.py.) -/
section
set_option linter.unusedVariables false
set_option linter.unusedSimpArgs false
namespace Go.Proofs.Yticbhfmpnmolcaa
open Go.RowKit Go.Shelf
set_option linter.unusedVariables false
set_option linter.unusedSimpArgs false
attribute [local go_sem] Oper.semAt_some
mutual
/-- The lists within an item, where these are taken: how deep each stands. -/
def It.lists : It → Int → List (Int × List It)
  | ⟨_, _, _, _, _, _, nested, sub, _⟩, dp => if nested then (dp, sub) :: (if 20 < dp then [] else listsL sub (dp + 1)) else []
def listsL : List It → Int → List (Int × List It)
  | [], _ => []
  | x :: r, dp => x.lists dp ++ listsL r dp
end
/-- What the iterator tells of a list. -/
def listsP (dp : Int) (l : List It) : List (Int × List It) := (dp, l) :: (if 20 < dp then [] else listsL l (dp + 1))
theorem It.lists_eq (x : It) (dp : Int) : x.lists dp = if x.nested then listsP dp x.sub else [] := by cases x; rw [It.lists]; rfl
theorem listsL_append (l m : List It) (dp : Int) : listsL (l ++ m) dp = listsL l dp ++ listsL m dp := by
  induction l with
  | nil => rw [listsL]; rfl
  | cons x r ih => rw [List.cons_append, listsL, listsL, ih, List.append_assoc]
theorem listsL_take {l : List It} {k : Nat} (hk : k < l.length) (dp : Int) : listsL (l.take (k + 1)) dp = listsL (l.take k) dp ++ l[k].lists dp := by
  rw [List.take_succ_eq_append_getElem hk, listsL_append]
  congr 1
  rw [listsL, listsL, List.append_nil]
theorem lists_get {l : List It} {dp : Int} (h20 : ¬ 20 < dp) {k : Nat} (hk : k < l.length) {j : Nat} (hj : j < (l[k].lists (dp + 1)).length) :
    (listsP dp l)[1 + (listsL (l.take k) (dp + 1)).length + j]? = (l[k].lists (dp + 1))[j]? ∧ 1 + (listsL (l.take k) (dp + 1)).length + j < (listsP dp l).length := by
  have e : listsP dp l = (dp, l) :: (listsL (l.take k) (dp + 1) ++ (l[k].lists (dp + 1) ++ listsL (l.drop (k + 1)) (dp + 1))) := by
    unfold listsP
    rw [if_neg h20, ← List.append_assoc, ← listsL_take hk, ← listsL_append, List.take_append_drop]
  rw [e, show 1 + (listsL (l.take k) (dp + 1)).length + j = ((listsL (l.take k) (dp + 1)).length + j) + 1 by omega, List.getElem?_cons_succ, List.getElem?_append_right (by omega), Nat.add_sub_cancel_left, List.getElem?_append_left hj]
  refine ⟨rfl, ?_⟩
  rw [List.length_cons, List.length_append, List.length_append]
  omega
/-- A consumer of lists: its word holds whatever turns from N0 on. -/
structure LCons (lo hi N0 : Nat) (W0 : World) (L nb kb : Nat) (dp : Int) (v : Value) (tot : List (Int × List It)) (J : Nat → World → Prop) (Z : World → Prop) : Prop where
  jS : ∀ i W W', J i W → Only (fun k => N0 ≤ k) W W' → J i W'
  zS : ∀ W W', Z W → Only (fun k => N0 ≤ k) W W' → Z W'
  jA : ∀ i W, J i W → Agree lo hi W0 W ∧ N0 ≤ W.heap.size
  jF : ∀ i W, J i W → Blk W nb [.int .i64 dp] 3 ∧ Blk W kb [v] 24
  yl : ∀ m i W D v' dq q, J i W → tot[i]? = some (dq, q) → Its D lo hi W v' q → YieldAt Fence.wide m Try.prog L #[.int .i64 dq, v'] W (fun e W' => Only (fun k => k < N0) W W' ∧ ((e = .returned (.bool true) ∧ J (i + 1) W') ∨ (e = .returned (.bool false) ∧ Z W')))
def InF (N1 L L1 b3 b5 nk kk : Nat) (Ds : List Nat) (dq : Int) (cs : List Value) (sv : Value) (o : Obj) (W : World) : Prop :=
  N1 ≤ W.heap.size ∧ W.heap[L1]? = some o ∧ (∀ D ∈ Ds, W.heap[D]? = some (.deferred (some []))) ∧ Blk W b3 [.func (.yield L) #[] #[]] 110 ∧ Blk W b5 cs 66 ∧ Blk W nk [.int .i64 dq] 3 ∧ Blk W kk [sv] 24
structure InB (N0 N1 L1 b3 b5 nk kk : Nat) (Ds : List Nat) : Prop where
  l1 : N0 ≤ L1 ∧ L1 < N1
  d : ∀ D ∈ Ds, N0 ≤ D ∧ D < N1 ∧ D ≠ L1
  b3 : N0 ≤ b3 ∧ b3 < N1 ∧ b3 ≠ L1
  b5 : N0 ≤ b5 ∧ b5 < N1 ∧ b5 ≠ L1
  nk : N0 ≤ nk ∧ nk < N1 ∧ nk ≠ L1
  kk : N0 ≤ kk ∧ kk < N1 ∧ kk ≠ L1
section
variable {N0 N1 L L1 b3 b5 nk kk : Nat} {Ds : List Nat} {dq : Int} {cs : List Value} {sv : Value} {o o' : Obj} {W W' : World} {A : Nat → Prop}
theorem InF.on (h : InF N1 L L1 b3 b5 nk kk Ds dq cs sv o W) (hb : InB N0 N1 L1 b3 b5 nk kk Ds) (hO : Only A W W') (hA : ∀ k, A k → k < N0 ∨ N1 ≤ k) : InF N1 L L1 b3 b5 nk kk Ds dq cs sv o W' := by
  obtain ⟨h1, h2, h3, h4, h5, h6, h7⟩ := h
  obtain ⟨k1, k2, k3, k4, k5, k6⟩ := hb
  exact ⟨Nat.le_trans h1 hO.size, (hO.block _ (by omega) (fun e => by have := hA _ e; omega)).trans h2, fun D hD => (hO.block _ (by have := k2 D hD; omega) (fun e => by have := hA _ e; have := k2 D hD; omega)).trans (h3 D hD), hO.blk h4 (fun e => by have := hA _ e; omega), hO.blk h5 (fun e => by have := hA _ e; omega), hO.blk h6 (fun e => by have := hA _ e; omega), hO.blk h7 (fun e => by have := hA _ e; omega)⟩
theorem InF.put (h : InF N1 L L1 b3 b5 nk kk Ds dq cs sv o W) (hb : InB N0 N1 L1 b3 b5 nk kk Ds) (o' : Obj) : InF N1 L L1 b3 b5 nk kk Ds dq cs sv o' (W.putObj L1 o') := by
  obtain ⟨h1, h2, h3, h4, h5, h6, h7⟩ := h
  obtain ⟨k1, k2, k3, k4, k5, k6⟩ := hb
  have hO : Only (· = L1) W (W.putObj L1 o') := Only.putObj (A := (· = L1)) _ (b := L1) rfl _
  exact ⟨Nat.le_trans h1 hO.size, World.putObj_heap_same (by omega), fun D hD => (hO.block _ (by have := k2 D hD; omega) (k2 D hD).2.2).trans (h3 D hD), hO.blk h4 k3.2.2, hO.blk h5 k4.2.2, hO.blk h6 k5.2.2, hO.blk h7 k6.2.2⟩
end
theorem Only.low {A B : Nat → Prop} {N0 : Nat} {a b c : World} (h : Only A a b) (k : Only B b c) (hN : a.heap.size = N0) : Only (fun k => k < N0) a c :=
  ⟨k.os.trans h.os, k.tape.trans h.tape, k.output.trans h.output, Nat.le_trans h.size k.size, fun i hi hn => absurd hi (by omega)⟩
theorem roundPost_retR {P : Program} {RL : LoopState → Option Code → Loop} {l : Nat} {fn : FuncId} {tmps : Array Value} {ps : Array Tmp} {assign body : Code} {D : Nat} {W : World} {R : Ending → World → Prop} {a : Act}
    (hRL : RL = recL fn tmps ps assign body D) (hl : W.heap[l]? = some (.loop (RL .busy none)))
    (h : R (.returned (.bool false)) (W.putObj l (.loop (RL .done (some .ret))))) : roundPost P l R .ret a W := by subst hRL; exact roundPost_ret hl h
theorem marks_leave {F : Fence} {n : Nat} {P : Program} {fn : Func} {tmps : Array Value} {R : Ending → World → Prop} : ∀ (Ds : List Nat) (w : World), Ds.Nodup → (∀ D ∈ Ds, w.heap[D]? = some (.deferred (some []))) →
    (∀ w', Only (· ∈ Ds) w w' → LeavesIn F n P fn tmps R [] .returning w') → LeavesInM F n P fn tmps R (Ds.map markD) .returning w
  | [], w, _, _, h => h w (Only.refl _ _)
  | D :: Ds, w, hn, hd, h => by
    obtain ⟨h1, h2⟩ := List.nodup_cons.1 hn
    refine ⟨by simp, .inl ⟨D, w.putObj D (.deferred none), rfl, run_takeDeferred (hd D (by simp)), ?_⟩⟩
    have hp : Only (· ∈ D :: Ds) w (w.putObj D (.deferred none)) := Only.putObj (A := (· ∈ D :: Ds)) w (b := D) (by simp) _
    refine marks_leave Ds _ h2 (fun D' hD' => (World.putObj_heap_other (by rintro rfl; exact h1 hD')).trans (hd D' (by simp [hD']))) (fun w' ho => h w' (hp.trans (ho.mono (fun k _ hk => List.mem_cons_of_mem _ hk))))
set_option maxRecDepth 100000 in
set_option maxHeartbeats 2000000 in
theorem lists_any (v : Value) (ao : Option Addr) (n c : Nat) (hv : v = .slice ao n c) (dp : Int) (w : World) (R : Ending → World → Prop)
    (hR : R (.returned (.func (.func 62) #[] #[.pointer (some ⟨w.heap.size + 1, 0, none⟩), .pointer (some ⟨w.heap.size, 0, none⟩)])) ((w.alloc (.cells #[v] 24)).alloc (.cells #[.int .i64 dp] 3))) :
    Calls Try.prog 34 #[v, .int .i64 dp] w R := by
  subst hv
  go_enter Try.func34, Try.ntmps34
  go_wp2_with fail
  first | exact hR | exact fin hR rfl
def ListsAt (D : Nat) : Prop := ∀ (L N0 lo hi nb kb : Nat) (W0 : World) (dp : Int) (l : List It) (v : Value) (tot : List (Int × List It)) (J : Nat → World → Prop) (Z : World → Prop) (i0 : Nat) (W : World) (m : Nat),
  W.heap.size = N0 → LCons lo hi N0 W0 L nb kb dp v tot J Z → Its D lo hi W0 v l → hi ≤ N0 → 0 ≤ dp → dp ≤ 21 → (∀ j, j < (listsP dp l).length → tot[i0 + j]? = (listsP dp l)[j]?) → J i0 W →
  CallsIn Fence.wide m Try.prog 62 #[.func (.yield L) #[] #[], .pointer (some ⟨nb, 0, none⟩), .pointer (some ⟨kb, 0, none⟩)] W
    (fun e W' => (∃ v, e = .returned v) ∧ Only (fun k => k < N0) W W' ∧ (J (i0 + (listsP dp l).length) W' ∨ Z W'))
set_option maxRecDepth 1000000 in
set_option maxHeartbeats 16000000 in
theorem lists_at (D : Nat) (ih : ∀ D', D' < D → ListsAt D') : ListsAt D := by
  intro L N0 lo hi nb kb W0 dp l v tot J Z i0 W m hWN hC hv hhi hd0 hd1 htot hj
  have HWN := Lib.hid hWN
  have HC := Lib.hid hC
  have Hv := Lib.hid hv
  have Htot := Lib.hid htot
  have hl63 := hv.len
  obtain ⟨av, cv, rfl, -⟩ := hv.form
  have hN := (hC.jA _ _ hj).2
  have hB1 := alloc_below W (.cells #[.func (.yield L) #[] #[]] 110)
  have hb1 := Blk.new W [.func (.yield L) #[] #[]] 110 rfl
  have Hj1 := Lib.hid (hC.jS _ _ _ hj (Below.only hB1))
  refine callsIn_of_wp_marks Try.func62 rfl trivial ?_ rfl
  refine wpIn_wide.2 ?_
  simp only [Try.ntmps62, List.size_toArray, List.length_cons, Nat.reduceAdd, Nat.reduceSub, Array.replicate_succ, Array.replicate_zero, List.push_toArray, List.append_toArray, List.nil_append, List.cons_append, List.length_nil]
  clear hC hv htot hj hWN
  go_upto_region 1 with fail
  generalize W.alloc (.cells #[.func (.yield L) #[] #[]] 110) = W1 at *
  obtain ⟨b3, eb3⟩ : ∃ b, b = W.heap.size := ⟨_, rfl⟩
  rw [← eb3] at hb1 ⊢
  have hz1 := hB1.size
  have Hb1 := Lib.hid hb1
  have HB1 := Lib.hid hB1
  have hNb : N0 ≤ b3 := by omega
  have hWb : W.heap.size ≤ b3 := by omega
  clear eb3
  obtain ⟨f1, f2⟩ := HC.out.jF _ _ Hj1.out
  have g3 := hb1.cells.c1
  have g1 := f1.cells.c1
  have g2 := f2.cells.c1
  have hJA := HC.out.jA _ _ Hj1.out
  obtain ⟨yf, yt, ya, yb, hy, hRR⟩ := HC.out.yl 0 i0 W1 D _ dp l Hj1.out (by have h := Htot.out 0 (by simp [listsP]); simpa [listsP] using h) (Hv.out.agree (itE_loc D) hJA.1)
  clear hb1 hB1 f1 f2 hJA
  refine (wpIn_wide (n := 1)).1 ?_
  gi_wp2_with fail
  refine hRR.mono ?_
  rintro e' W2 ⟨hO2, ⟨rfl, hj2⟩ | ⟨rfl, hz2⟩⟩
  · have Hj2 := Lib.hid hj2
    have HO2 := Lib.hid ((Below.only HB1.out).trans hO2)
    have Hb2 := Lib.hid (hO2.blk Hb1.out (by omega))
    have hz2 := hO2.size
    obtain ⟨f1, f2⟩ := HC.out.jF _ _ Hj2.out
    have g1 := f1.cells.c1
    have g2 := f2.cells.c1
    clear hj2 hO2 hRR hy g3 f1 f2
    by_cases h20 : 20 < dp
    · have hfin : J (i0 + (listsP dp l).length) W2 := by rw [show (listsP dp l).length = 1 by unfold listsP; rw [if_pos h20]; rfl]; exact Hj2.out
      gi_wp2_with fail
      go_wp2_with fail
      first | exact bodyPost_ret (results_none rfl _ _ _) rfl ⟨⟨_, rfl⟩, HO2.out, .inl hfin⟩ | exact ⟨_, results_none rfl _ _ _, ⟨_, rfl⟩, HO2.out, .inl hfin⟩ | (go_end0; exact ⟨⟨_, rfl⟩, HO2.out, .inl hfin⟩)
    · have H20 : Hid (dp ≤ 20) := Lib.hid (by omega)
      gi_wp2_with fail
      go_wp2_with fail
      refine wp_loop (fun a wr => ∃ (k : Nat) (Ds : List Nat) (u5 u6 u7 u20 u21 u22 u23 u24 u25 u26 u27 u28 u29 u30 u31 u32 u33 u34 u35 u36 u37 u38 u39 : Value), (k ≤ l.length ∧ J (i0 + 1 + (listsL (l.take k) (dp + 1)).length) wr ∧ Only (fun k => k < N0) W wr ∧ Blk wr b3 [.func (.yield L) #[] #[]] 110 ∧ Ds.Nodup ∧ ∀ D ∈ Ds, N0 ≤ D ∧ wr.heap[D]? = some (.deferred (some []))) ∧
        a = ⟨#[.func (.yield L) #[] #[], .pointer (some ⟨nb, 0, none⟩), .pointer (some ⟨kb, 0, none⟩), .pointer (some ⟨b3, 0, none⟩), undef, u5, u6, u7, .func (.yield L) #[] #[], .int .i64 dp, .slice av l.length cv, .bool true, .bool false, .bool false, .int .i64 dp, .bool (decide (20 < dp)), .bool (decide (20 < dp)), .slice av l.length cv, .int .i64 (l.length : Int), .int .i64 ((k : Nat) : Int), u20, u21, u22, u23, u24, u25, u26, u27, u28, u29, u30, u31, u32, u33, u34, u35, u36, u37, u38, u39], Ds.map markD⟩) (fun a _ => l.length - (intOf (a.tmps.getD 19 undef)).toNat) ?_ ?_
      · exact ⟨0, [], _, _, _, _, _, _, _, _, _, _, _, _, _, _, _, _, _, _, _, _, _, _, _, ⟨Nat.zero_le _, by rw [List.take_zero, listsL]; exact Hj2.out, HO2.out, Hb2.out, List.nodup_nil, fun D hD => by cases hD⟩, rfl⟩
      rintro a wr ⟨k, Ds, u5, u6, u7, u20, u21, u22, u23, u24, u25, u26, u27, u28, u29, u30, u31, u32, u33, u34, u35, u36, u37, u38, u39, ⟨hk, hjr, hOr, hbr, hnd, hds⟩, rfl⟩
      dsimp only
      have Hjr := Lib.hid hjr
      have HOr := Lib.hid hOr
      have Hbr := Lib.hid hbr
      have Hnd := Lib.hid hnd
      have Hds := Lib.hid hds
      have hzr := hOr.size
      have kk0 : (0 : Int) ≤ (k : Int) := by omega
      clear hjr hOr hbr hnd hds g1 g2
      by_cases hlt : k < l.length
      · have kkl : (k : Int) < (l.length : Int) := by omega
        have HA := Lib.hid (HC.out.jA _ _ Hjr.out).1
        have Hx := Lib.hid (Hv.out.agree (itE_loc D) HA.out)
        obtain ⟨ao', cap', e', -, -, -, hc⟩ := Hx.out.form
        injection e' with e1 e2 e3
        subst e1 e3
        obtain ⟨b, off, rfl, hb1, hb2, hcc⟩ := hc k hlt
        obtain ⟨cs, -, hcs, hel⟩ := hcc k hlt
        have Hget := Lib.hid (fun j => lists_get (l := l) (dp := dp) (Int.not_lt.2 H20.out) hlt (j := j))
        have Hlt := Lib.hid (listsL_take hlt (dp + 1))
        generalize l[k] = x at *
        cases D with
        | zero => exact hel.elim
        | succ D =>
          obtain ⟨-, sv, rfl, hsub⟩ := hel
          have Hsub := Lib.hid (hsub.agree (itE_loc D) (fun k a b => (HA.out k a b).symm))
          obtain ⟨sp, sc, rfl, -⟩ := hsub.form
          have hcs2 : CellsAt wr b (off + k * 11) [.bool x.wild, .string ⟨x.attr.toArray⟩, .bool x.back, .int .i64 x.limit, .bool x.has, .int .i64 x.dflt.kind, .int .i64 x.dflt.n, .string ⟨x.dflt.s.toArray⟩, .bool x.nested, .slice sp x.sub.length sc, .int .i64 x.rc] := hcs
          obtain ⟨x0, x1, x2, x3, x4, x5, x6, x7, x8, x9, x10⟩ := item_cells hcs2
          have hB4 := alloc_below wr (.cells #[.bool x.wild, .string ⟨x.attr.toArray⟩, .bool x.back, .int .i64 x.limit, .bool x.has, .int .i64 x.dflt.kind, .int .i64 x.dflt.n, .string ⟨x.dflt.s.toArray⟩, .bool x.nested, .slice sp x.sub.length sc, .int .i64 x.rc] 66)
          have hb4 := Blk.new wr [.bool x.wild, .string ⟨x.attr.toArray⟩, .bool x.back, .int .i64 x.limit, .bool x.has, .int .i64 x.dflt.kind, .int .i64 x.dflt.n, .string ⟨x.dflt.s.toArray⟩, .bool x.nested, .slice sp x.sub.length sc, .int .i64 x.rc] 66 rfl
          clear hc hcc hcs hcs2 hsub e2 hb1 hb2 Hx
          go_upto_region 5 with fail
          generalize wr.alloc (.cells #[.bool x.wild, .string ⟨x.attr.toArray⟩, .bool x.back, .int .i64 x.limit, .bool x.has, .int .i64 x.dflt.kind, .int .i64 x.dflt.n, .string ⟨x.dflt.s.toArray⟩, .bool x.nested, .slice sp x.sub.length sc, .int .i64 x.rc] 66) = w4 at *
          obtain ⟨b5, eb5⟩ : ∃ b, b = wr.heap.size := ⟨_, rfl⟩
          rw [← eb5] at hb4 ⊢
          have hz4 := hB4.size
          have hb5z : wr.heap.size ≤ b5 ∧ b5 < w4.heap.size := ⟨by omega, hb4.lt⟩
          have Hb5 := Lib.hid hb4
          have HB4 := Lib.hid hB4
          have Hj4 := Lib.hid (HC.out.jS _ _ _ Hjr.out (Below.only hB4))
          clear x0 x1 x2 x3 x4 x5 x6 x7 x8 x9 x10 hB4 eb5
          have g1 := (HC.out.jF _ _ Hj4.out).1.cells.c1
          obtain ⟨x0, x1, x2, x3, x4, x5, x6, x7, x8, x9, x10⟩ := item_cells hb4.cells
          simp only [Nat.zero_add] at x9
          clear x0 x1 x2 x3 x4 x5 x6 x7 x8 x10 hb4
          go_wp2_with fail
          refine lists_any _ sp x.sub.length sc rfl (dp + 1) w4 _ ?_
          have hBs := (alloc_below w4 (.cells #[.slice sp x.sub.length sc] 24))
          have hBs2 := (alloc_below (w4.alloc (.cells #[.slice sp x.sub.length sc] 24)) (.cells #[.int .i64 (dp + 1)] 3))
          have hsz6 : (w4.alloc (.cells #[.slice sp x.sub.length sc] 24)).heap.size = w4.heap.size + 1 := by simp
          have hB6 : Below w4.heap.size w4 ((w4.alloc (.cells #[.slice sp x.sub.length sc] 24)).alloc (.cells #[.int .i64 (dp + 1)] 3)) := hBs.trans (hBs2.mono (by omega))
          have hkk := (Blk.new w4 [.slice sp x.sub.length sc] 24 rfl).below hBs2 (by omega)
          have hnk := Blk.new (w4.alloc (.cells #[.slice sp x.sub.length sc] 24)) [.int .i64 (dp + 1)] 3 rfl
          rw [hsz6] at hnk
          clear hBs hBs2 hsz6 x9 g1
          generalize (w4.alloc (.cells #[.slice sp x.sub.length sc] 24)).alloc (.cells #[.int .i64 (dp + 1)] 3) = w6 at *
          obtain ⟨kk, ekk⟩ : ∃ z, z = w4.heap.size := ⟨_, rfl⟩
          obtain ⟨nk, enk⟩ : ∃ z, z = w4.heap.size + 1 := ⟨_, rfl⟩
          rw [← ekk] at hkk ⊢
          rw [← enk] at hnk
          rw [show kk + 1 = nk by omega]
          have hks : w4.heap.size ≤ kk ∧ w4.heap.size ≤ nk := by omega
          have hkl := hkk.lt
          have hnl := hnk.lt
          clear ekk enk
          go_wp2_with fail
          refine wp_rangeFuncR 1 (gf := 62) rfl (enters_of Try.func62 (by kernel_rfl) rfl) (fun fn RL hRL => ?_)
          have HRL := Lib.hid hRL
          clear hRL
          have hB7 : Below w6.heap.size w6 ((w6.alloc (.deferred (some []))).alloc (.loop (RL .ready none))) := ((Below.refl _ _).alloc (Nat.le_refl _) _).alloc (by simp) _
          have hlD : ((w6.alloc (.deferred (some []))).alloc (.loop (RL .ready none))).heap[w6.heap.size]? = some (.deferred (some [])) := (Below.heap_alloc _ _ _ (by simp)).trans (World.alloc_heap_new w6 _)
          have hlL : ((w6.alloc (.deferred (some []))).alloc (.loop (RL .ready none))).heap[w6.heap.size + 1]? = some (.loop (RL .ready none)) := by
            have := World.alloc_heap_new (w6.alloc (.deferred (some []))) (.loop (RL .ready none))
            rwa [World.size_alloc] at this
          generalize (w6.alloc (.deferred (some []))).alloc (.loop (RL .ready none)) = w7 at *
          obtain ⟨D1, eD1⟩ : ∃ z, z = w6.heap.size := ⟨_, rfl⟩
          obtain ⟨L1, eL1⟩ : ∃ z, z = w6.heap.size + 1 := ⟨_, rfl⟩
          obtain ⟨N1, eN1⟩ : ∃ z, z = w7.heap.size := ⟨_, rfl⟩
          have hLz := heap_lt hlL
          rw [← eL1] at hlL hLz ⊢
          rw [← eD1] at hlD ⊢
          have hz6 := hB6.size
          have hDs : ∀ D ∈ Ds, N0 ≤ D ∧ D < wr.heap.size := fun D hD => ⟨(Hds.out D hD).1, heap_lt (Hds.out D hD).2⟩
          have hb3l := Hbr.out.lt
          have HBd : Hid (InB N0 N1 L1 b3 b5 nk kk (D1 :: Ds)) := Lib.hid ⟨by omega, fun D hD => by
            rcases List.mem_cons.1 hD with rfl | hD
            · omega
            · have := hDs D hD; omega, by omega, by omega, by omega, by omega⟩
          have hB47 : Below w4.heap.size w4 w7 := hB6.trans (hB7.mono hz6)
          have hBr7 : Below wr.heap.size wr w7 := HB4.out.trans (hB47.mono hz4)
          have HF7 : Hid (InF N1 L L1 b3 b5 nk kk (D1 :: Ds) (dp + 1) [.bool x.wild, .string ⟨x.attr.toArray⟩, .bool x.back, .int .i64 x.limit, .bool x.has, .int .i64 x.dflt.kind, .int .i64 x.dflt.n, .string ⟨x.dflt.s.toArray⟩, .bool x.nested, .slice sp x.sub.length sc, .int .i64 x.rc] (.slice sp x.sub.length sc) (.loop (RL .ready none)) w7) := Lib.hid ⟨Nat.le_of_eq eN1, hlL, fun D hD => by
            rcases List.mem_cons.1 hD with rfl | hD
            · exact hlD
            · exact (hBr7.block D (hDs D hD).2).trans (Hds.out D hD).2, Hbr.out.below hBr7 hb3l, Hb5.out.below hB47 hb5z.2, hnk.below hB7 hnl, hkk.below hB7 hkl⟩
          have Hnd' : Hid ((D1 :: Ds).Nodup) := Lib.hid (List.nodup_cons.2 ⟨fun h => by have := hDs D1 h; omega, Hnd.out⟩)
          have Hj7 := Lib.hid (HC.out.jS _ _ _ Hj4.out (Below.only hB47))
          have HO7 : Hid (Only (fun k => k < N0) W w7) := Lib.hid (HOr.out.low (Below.only (A := fun _ => False) hBr7) HWN.out)
          obtain ⟨nst, hnst⟩ : ∃ nst, nst = x.nested := ⟨_, rfl⟩
          have Hnst := Lib.hid hnst
          obtain ⟨i1, hi1⟩ : ∃ i1, i1 = i0 + 1 + (listsL (l.take k) (dp + 1)).length := ⟨_, rfl⟩
          rw [← hi1] at Hj7
          have Hi1 := Lib.hid hi1
          have hL1 := HBd.out.l1
          have hN01 : N0 ≤ N1 := by omega
          have hhi1 : hi ≤ N1 := by omega
          obtain ⟨J', hJ'⟩ : ∃ J' : Nat → World → Prop, J' = fun i W => J (if nst then i1 + i else i1) W ∧ InF N1 L L1 b3 b5 nk kk (D1 :: Ds) (dp + 1) [.bool x.wild, .string ⟨x.attr.toArray⟩, .bool x.back, .int .i64 x.limit, .bool x.has, .int .i64 x.dflt.kind, .int .i64 x.dflt.n, .string ⟨x.dflt.s.toArray⟩, .bool x.nested, .slice sp x.sub.length sc, .int .i64 x.rc] (.slice sp x.sub.length sc) (.loop (RL .ready none)) W := ⟨_, rfl⟩
          obtain ⟨Z', hZ'⟩ : ∃ Z' : World → Prop, Z' = fun W => Z W ∧ InF N1 L L1 b3 b5 nk kk (D1 :: Ds) (dp + 1) [.bool x.wild, .string ⟨x.attr.toArray⟩, .bool x.back, .int .i64 x.limit, .bool x.has, .int .i64 x.dflt.kind, .int .i64 x.dflt.n, .string ⟨x.dflt.s.toArray⟩, .bool x.nested, .slice sp x.sub.length sc, .int .i64 x.rc] (.slice sp x.sub.length sc) (.loop (RL .done (some .ret))) W := ⟨_, rfl⟩
          have HJ := Lib.hid hJ'
          have HZ := Lib.hid hZ'
          have hJ0 : J' 0 w7 := by
            rw [hJ']
            refine ⟨?_, HF7.out⟩
            cases nst <;> simpa using Hj7.out
          have hw7 : w7.heap.size = N1 := eN1.symm
          clear hJ' hZ' hnst hi1 hDs hb3l hB47 hBr7 hlD hlL hB7 hB6 hkk hnk eD1 eL1 eN1 hks hkl hnl hLz hz6 hb5z
          refine (ih D (by omega) L1 N1 lo hi nk kk W0 (dp + 1) x.sub _ (listsP (dp + 1) x.sub) J' Z' 0 w7 1 hw7 ⟨?jS, ?zS, ?jA, ?jF, ?yl⟩ Hsub.out hhi1 (by omega) (by omega) (fun j _ => by rw [Nat.zero_add]) hJ0).mono ?hend
          case jS =>
            intro i Wa Wb h hO
            rw [HJ.out] at h ⊢
            exact ⟨HC.out.jS _ _ _ h.1 (hO.mono (fun k _ e => Nat.le_trans hN01 e)), h.2.on HBd.out hO (fun k e => .inr e)⟩
          case zS =>
            intro Wa Wb h hO
            rw [HZ.out] at h ⊢
            exact ⟨HC.out.zS _ _ h.1 (hO.mono (fun k _ e => Nat.le_trans hN01 e)), h.2.on HBd.out hO (fun k e => .inr e)⟩
          case jA =>
            intro i Wa h
            rw [HJ.out] at h
            exact ⟨(HC.out.jA _ _ h.1).1, h.2.1⟩
          case jF =>
            intro i Wa h
            rw [HJ.out] at h
            exact ⟨h.2.2.2.2.2.2.1, h.2.2.2.2.2.2.2⟩
          case yl =>
            intro m2 i Wy D2 v' dq q hjy hget hq
            have Hjy := Lib.hid hjy
            rw [HJ.out] at hjy
            obtain ⟨hj0, hF0⟩ := hjy
            obtain ⟨qa, qc, rfl, -⟩ := hq.form
            have hl0 := hF0.2.1
            refine yieldAt_recR HRL.out hl0 rfl ?_
            have Hl0 := Lib.hid hl0
            have HF3 := Lib.hid (hF0.put HBd.out (.loop (RL .busy none)))
            have hO3 : Only (· = L1) Wy (Wy.putObj L1 (.loop (RL .busy none))) := Only.putObj (A := (· = L1)) Wy (b := L1) rfl _
            have Hj3 := Lib.hid (HC.out.jS _ _ _ hj0 (hO3.mono (fun k _ e => by have : k = L1 := e; omega)))
            have Hq3 := Lib.hid (Sl.agree hq (itE_loc _) (hO3.agree (Nat.le_trans hhi1 hF0.1) (fun k e => .inr (by have : k = L1 := e; omega))))
            clear hl0 hj0 hF0 hq
            gi_wp2_with fail
            refine ⟨Hl0.out, ?_⟩
            generalize Wy.putObj L1 (.loop (RL .busy none)) = W3 at *
            have HO3 := Lib.hid hO3
            have hz3 := hO3.size
            clear hO3
            have hF3 := HF3.out
            obtain ⟨-, -, -, c3, c5, -, -⟩ := hF3
            have c3 := c3.cells.c1
            obtain ⟨x0, x1, x2, x3, x4, x5, x6, x7, x8, x9, x10⟩ := item_cells c5.cells
            simp only [Nat.zero_add] at x8
            rw [← Hnst.out] at x8
            clear x0 x1 x2 x3 x4 x5 x6 x7 x9 x10 c5
            cases nst with
            | false =>
              have hl3 := HF3.out.2.1
              have hfin : J' (i + 1) (W3.putObj L1 (.loop (RL .ready none))) := by
                rw [HJ.out]
                refine ⟨?_, HF3.out.put HBd.out _⟩
                have h1 := Hj3.out
                simp only [Bool.false_eq_true, if_false] at h1 ⊢
                exact HC.out.jS _ _ _ h1 (Only.putObj (A := fun k => N0 ≤ k) W3 (b := L1) hL1.1 _)
              have hon : Only (fun k => k < N1) Wy (W3.putObj L1 (.loop (RL .ready none))) := (HO3.out.mono (A' := fun k => k < N1) (fun k _ e => by have : k = L1 := e; omega)).trans (Only.putObj (A := fun k => k < N1) W3 (b := L1) hL1.2 _)
              have Hfin := Lib.hid hfin
              have Hon := Lib.hid hon
              have Hl3 := Lib.hid hl3
              clear hfin hon hl3
              gi_wp2_with fail
              all_goals try (rename_i bq h1 h2; exact absurd h1 (undef_ne bq))
              all_goals refine ⟨(by intro f h; cases h), ?_⟩
              all_goals try gi_wp2_with fail
              all_goals exact roundPost_normalR HRL.out Hl3.out ⟨Hon.out, .inl ⟨rfl, Hfin.out⟩⟩
            | true =>
              have h1 := Hj3.out
              simp only [if_true] at h1
              have hlen : i < (listsP (dp + 1) x.sub).length := (List.getElem?_eq_some_iff.1 hget).1
              have hxl : x.lists (dp + 1) = listsP (dp + 1) x.sub := by rw [It.lists_eq, if_pos Hnst.out.symm]
              have hg2 : tot[i1 + i]? = some (dq, q) := by
                obtain ⟨q1, q2⟩ := Hget.out i (by rw [hxl]; exact hlen)
                rw [Hi1.out, show i0 + 1 + (listsL (l.take k) (dp + 1)).length + i = i0 + (1 + (listsL (l.take k) (dp + 1)).length + i) by omega, Htot.out _ q2, q1, hxl]
                exact hget
              obtain ⟨yf, yt, ya, yb, hy, hRR⟩ := HC.out.yl (m2 - 1) (i1 + i) W3 D2 _ dq q h1 hg2 Hq3.out
              clear h1 hg2 hxl hlen hget
              gi_wp2_with fail
              refine ⟨fun h => by simp [Fence.wide] at h, ?_⟩
              refine RoundIn.mono (show RoundIn (Fence.wide.inRound L1) (m2 - 1) Try.prog L yf yt ya yb W3 _ from hRR) ?_
              rintro e W4 ⟨hO4, ⟨rfl, hj4⟩ | ⟨rfl, hz4⟩⟩
              · have HF4 := Lib.hid (HF3.out.on HBd.out hO4 (fun k e => .inl e))
                have hl4 := HF4.out.2.1
                have hfin : J' (i + 1) (W4.putObj L1 (.loop (RL .ready none))) := by
                  rw [HJ.out]
                  refine ⟨?_, HF4.out.put HBd.out _⟩
                  simp only [if_true]
                  exact HC.out.jS _ _ _ hj4 (Only.putObj (A := fun k => N0 ≤ k) W4 (b := L1) hL1.1 _)
                have hon : Only (fun k => k < N1) Wy (W4.putObj L1 (.loop (RL .ready none))) := ((HO3.out.mono (A' := fun k => k < N1) (fun k _ e => by have : k = L1 := e; omega)).trans (hO4.mono (fun k _ e => by have : k < N0 := e; omega))).trans (Only.putObj (A := fun k => k < N1) W4 (b := L1) hL1.2 _)
                have Hfin := Lib.hid hfin
                have Hon := Lib.hid hon
                have Hl4 := Lib.hid hl4
                clear hfin hon hl4 hj4 hO4 hRR hy
                gi_wp2_with fail
                exact roundPost_normalR HRL.out Hl4.out ⟨Hon.out, .inl ⟨rfl, Hfin.out⟩⟩
              · have HF4 := Lib.hid (HF3.out.on HBd.out hO4 (fun k e => .inl e))
                have hl4 := HF4.out.2.1
                have hfin : Z' (W4.putObj L1 (.loop (RL .done (some .ret)))) := by
                  rw [HZ.out]
                  refine ⟨?_, HF4.out.put HBd.out _⟩
                  exact HC.out.zS _ _ hz4 (Only.putObj (A := fun k => N0 ≤ k) W4 (b := L1) hL1.1 _)
                have hon : Only (fun k => k < N1) Wy (W4.putObj L1 (.loop (RL .done (some .ret)))) := ((HO3.out.mono (A' := fun k => k < N1) (fun k _ e => by have : k = L1 := e; omega)).trans (hO4.mono (fun k _ e => by have : k < N0 := e; omega))).trans (Only.putObj (A := fun k => k < N1) W4 (b := L1) hL1.2 _)
                have Hfin := Lib.hid hfin
                have Hon := Lib.hid hon
                have Hl4 := Lib.hid hl4
                clear hfin hon hl4 hz4 hO4 hRR hy
                gi_wp2_with fail
                exact roundPost_retR HRL.out Hl4.out ⟨Hon.out, .inr ⟨rfl, Hfin.out⟩⟩
          case hend =>
            rintro e W8 ⟨⟨v8, rfl⟩, hO8, hx8⟩
            have HO8 := Lib.hid (HO7.out.low hO8 HWN.out)
            clear hO8
            rcases hx8 with hj8 | hz8
            · rw [HJ.out] at hj8
              obtain ⟨hj8, hF8⟩ := hj8
              refine ⟨⟨v8, rfl⟩, .ready, none, by simp, hF8.2.1, ?_⟩
              have hF9 := hF8.put HBd.out (.loop (RL .exhausted none))
              have hj9 := HC.out.jS _ _ _ hj8 (Only.putObj (A := fun k => N0 ≤ k) W8 (b := L1) hL1.1 (.loop (RL .exhausted none)))
              have hO9 := HO8.out.low (Only.putObj (A := fun k => N0 ≤ k) W8 (b := L1) hL1.1 (.loop (RL .exhausted none))) HWN.out
              have Hj9 : Hid (J (i0 + 1 + (listsL (l.take (k + 1)) (dp + 1)).length) (W8.putObj L1 (.loop (RL .exhausted none)))) := Lib.hid (by
                rw [Hlt.out, List.length_append, ← Nat.add_assoc, ← Hi1.out, It.lists_eq, ← Hnst.out]
                cases nst <;> simpa using hj9)
              have HF9 := Lib.hid hF9
              have HO9 := Lib.hid hO9
              clear hF8 hF9 hj8 hj9 hO9
              generalize W8.putObj L1 (.loop (RL .exhausted none)) = W9 at *
              show Exit.inBlock 2 _ Exit.normal _ W9
              go_wp2_with fail
              refine ⟨⟨k + 1, D1 :: Ds, ⟨hlt, Hj9.out, HO9.out, HF9.out.2.2.2.1, Hnd'.out, fun D hD => ⟨(HBd.out.d D hD).1, HF9.out.2.2.1 D hD⟩⟩, by omega, rfl⟩, ?_⟩
              simp [intOf]
              omega
            · rw [HZ.out] at hz8
              obtain ⟨hz8, hF8⟩ := hz8
              refine ⟨⟨v8, rfl⟩, .done, (some .ret), by simp, hF8.2.1, ?_⟩
              have hF9 := hF8.put HBd.out (.loop (RL .exhausted (some .ret)))
              have hz9 := HC.out.zS _ _ hz8 (Only.putObj (A := fun k => N0 ≤ k) W8 (b := L1) hL1.1 (.loop (RL .exhausted (some .ret))))
              have hO9 := HO8.out.low (Only.putObj (A := fun k => N0 ≤ k) W8 (b := L1) hL1.1 (.loop (RL .exhausted (some .ret)))) HWN.out
              have HF9 := Lib.hid hF9
              have HO9 := Lib.hid hO9
              have Hz9 := Lib.hid hz9
              clear hF8 hF9 hz8 hz9 hO9
              dsimp only
              generalize W8.putObj L1 (.loop (RL .exhausted (some .ret))) = W9 at *
              go_wp2_with fail
              refine marks_leave (D1 :: Ds) W9 Hnd'.out HF9.out.2.2.1 (fun w' ho => ⟨_, results_none rfl _ _ _, ⟨_, rfl⟩, HO9.out.low ho HWN.out, .inr (HC.out.zS _ _ Hz9.out (ho.mono (fun k _ e => (HBd.out.d k e).1)))⟩)
      · have hke : k = l.length := by omega
        have kkl : ¬ ((k : Nat) : Int) < (l.length : Int) := by omega
        have Hfin : Hid (J (i0 + (listsP dp l).length) wr) := Lib.hid (by
          have h := Hjr.out
          rw [List.take_of_length_le (by omega)] at h
          unfold listsP
          rw [if_neg (Int.not_lt.2 H20.out), List.length_cons, show i0 + ((listsL l (dp + 1)).length + 1) = i0 + 1 + (listsL l (dp + 1)).length by omega]
          exact h)
        clear hke
        go_wp2_with fail
        refine marks_leave Ds wr Hnd.out (fun D hD => (Hds.out D hD).2) (fun w' ho => ⟨_, results_none rfl _ _ _, ⟨_, rfl⟩, HOr.out.low ho HWN.out, .inl (HC.out.jS _ _ _ Hfin.out (ho.mono (fun k _ e => (Hds.out k e).1)))⟩)
  · have Hz2 := Lib.hid hz2
    have HO2 := Lib.hid ((Below.only HB1.out).trans hO2)
    clear hz2 hO2 hRR hy g1 g2 g3
    gi_wp2_with fail
    go_wp2_with fail
    first | exact bodyPost_ret (results_none rfl _ _ _) rfl ⟨⟨_, rfl⟩, HO2.out, .inr Hz2.out⟩ | exact ⟨_, results_none rfl _ _ _, ⟨_, rfl⟩, HO2.out, .inr Hz2.out⟩ | (go_end0; exact ⟨⟨_, rfl⟩, HO2.out, .inr Hz2.out⟩)
theorem lists1_any (D : Nat) : ListsAt D := by
  induction D using Nat.strongRecOn with
  | _ D ih => exact lists_at D ih
end Go.Proofs.Yticbhfmpnmolcaa
end

/- shape.may, shape.Check. (Printed by pulah.py.) -/
section
set_option linter.unusedVariables false
set_option linter.unusedSimpArgs false
namespace Go.Proofs.Yticbhfmpnmolcaa
open Go.RowKit Go.Shelf
set_option linter.unusedVariables false
set_option linter.unusedSimpArgs false
attribute [local go_sem] Oper.semAt_some
def listFine (p : Int × List It) : Prop := p.1 ≤ 20 ∧ listOk p.2 = true
theorem lists_head (dp : Int) (l : List It) (P : Int × List It → Prop) : (∀ p ∈ listsP dp l, P p) ↔ P (dp, l) ∧ (dp ≤ 20 → ∀ p ∈ listsL l (dp + 1), P p) := by
  unfold listsP
  by_cases h : 20 < dp
  · rw [if_pos h]
    exact ⟨fun k => ⟨k _ (by simp), fun h2 => by omega⟩, fun k p hp => by obtain rfl := List.mem_singleton.1 hp; exact k.1⟩
  · rw [if_neg h]
    constructor
    · exact fun k => ⟨k _ (by simp), fun _ p hp => k p (List.mem_cons_of_mem _ hp)⟩
    · rintro ⟨k1, k2⟩ p hp
      rcases List.mem_cons.1 hp with rfl | hp
      · exact k1
      · exact k2 (by omega) p hp
mutual
theorem It.lists_fine : ∀ (x : It) (dp : Int), dp ≤ 20 → ((∀ p ∈ x.lists (dp + 1), listFine p) ↔ dp + (x.dpt : Nat) ≤ 20 ∧ x.fineI = true)
  | ⟨w, a, b, li, h, df, nested, sub, rc⟩, dp, hd => by
    rw [It.lists_eq, It.dpt, It.fineI]
    cases nested with
    | false => simp; omega
    | true =>
      simp only [if_true, Bool.not_true, Bool.false_or, Bool.and_eq_true]
      rw [lists_head]
      by_cases h20 : dp + 1 ≤ 20
      · rw [listsL_fine sub (dp + 1) h20]
        unfold listFine
        simp only
        constructor
        · rintro ⟨⟨k1, k2⟩, k3⟩
          obtain ⟨k4, k5⟩ := k3 h20
          exact ⟨by omega, k2, k5⟩
        · rintro ⟨k1, k2, k3⟩
          exact ⟨⟨h20, k2⟩, fun _ => ⟨by omega, k3⟩⟩
      · constructor
        · rintro ⟨⟨k1, k2⟩, k3⟩
          exact absurd k1 h20
        · rintro ⟨k1, k2, k3⟩
          omega
theorem listsL_fine : ∀ (l : List It) (dp : Int), dp ≤ 20 → ((∀ p ∈ listsL l (dp + 1), listFine p) ↔ dp + (dptL l : Nat) ≤ 20 ∧ fineA l = true)
  | [], dp, hd => by rw [listsL, dptL, fineA]; simp; omega
  | x :: r, dp, hd => by
    rw [listsL, dptL, fineA]
    have h1 := It.lists_fine x dp hd
    have h2 := listsL_fine r dp hd
    simp only [Bool.and_eq_true]
    constructor
    · intro h
      obtain ⟨a1, a2⟩ := h1.1 (fun p hp => h p (List.mem_append_left _ hp))
      obtain ⟨b1, b2⟩ := h2.1 (fun p hp => h p (List.mem_append_right _ hp))
      exact ⟨by omega, a2, b2⟩
    · rintro ⟨k1, k2, k3⟩ p hp
      rcases List.mem_append.1 hp with hp | hp
      · exact h1.2 ⟨by omega, k2⟩ p hp
      · exact h2.2 ⟨by omega, k3⟩ p hp
end
theorem lists_may {l : List It} (ha : allL l ≤ 1000) : (∀ p ∈ listsP 1 l, listFine p) ↔ mayPat l = true := by
  have hc := cntL_le l
  rw [lists_head, listsL_fine l 1 (by decide)]
  unfold mayPat finePat listFine
  simp only [Bool.and_eq_true, decide_eq_true_eq]
  constructor
  · rintro ⟨⟨k1, k2⟩, k3⟩
    obtain ⟨k4, k5⟩ := k3 (by decide)
    exact ⟨⟨by omega, by omega⟩, k2, k5⟩
  · rintro ⟨⟨k1, k2⟩, k3, k4⟩
    exact ⟨⟨by decide, k3⟩, fun _ => ⟨by omega, k4⟩⟩
def lensL (t : List (Int × List It)) : Nat := (t.map fun p => p.2.length).sum
theorem lensL_append (a b : List (Int × List It)) : lensL (a ++ b) = lensL a + lensL b := by unfold lensL; rw [List.map_append, List.sum_append]
theorem lensL_cons (p : Int × List It) (b : List (Int × List It)) : lensL (p :: b) = p.2.length + lensL b := by unfold lensL; rw [List.map_cons, List.sum_cons]
theorem lensL_take {t : List (Int × List It)} {i : Nat} {p : Int × List It} (h : t[i]? = some p) : lensL (t.take (i + 1)) = lensL (t.take i) + p.2.length := by
  obtain ⟨hi, rfl⟩ := List.getElem?_eq_some_iff.1 h
  rw [List.take_succ_eq_append_getElem hi, lensL_append, lensL_cons]; simp [lensL]
theorem lensL_le (t : List (Int × List It)) (i : Nat) : lensL (t.take i) ≤ lensL t := by
  conv => rhs; rw [← List.take_append_drop i t, lensL_append]
  omega
mutual
theorem It.lens_cnt : ∀ (x : It) (dp : Int), lensL (x.lists dp) ≤ x.cnt
  | ⟨w, a, b, li, h, df, nested, sub, rc⟩, dp => by
    rw [It.lists_eq, It.cnt]
    have := listsL_cnt sub (dp + 1)
    cases nested with
    | false => simp [lensL]
    | true =>
      simp only [if_true]
      unfold listsP
      rw [lensL_cons]
      simp only
      split
      · simp [lensL]
      · omega
theorem listsL_cnt : ∀ (l : List It) (dp : Int), lensL (listsL l dp) ≤ cntL l
  | [], dp => by rw [listsL]; simp [lensL]
  | x :: r, dp => by
    rw [listsL, cntL, lensL_append]
    have := It.lens_cnt x dp
    have := listsL_cnt r dp
    omega
end
theorem lists_lens (dp : Int) (l : List It) : lensL (listsP dp l) ≤ allL l := by
  have h1 := cntL_le l
  have h2 := listsL_cnt l (dp + 1)
  unfold listsP
  rw [lensL_cons]
  simp only
  split
  · simp [lensL]; omega
  · omega
theorem ok_bad {q : List It} {i : Nat} (hi : i < q.length) (h : (itOne q[i] && !((q.take i).any (alikeB q[i]))) = false) : listOk q = false := by
  unfold listOk
  rw [List.all_eq_false]
  refine ⟨i, List.mem_range.2 hi, ?_⟩
  unfold itemOk
  rw [List.getD_eq_getElem?_getD, List.getElem?_eq_getElem hi, Option.getD_some]
  simp only [Bool.and_eq_false_iff, Bool.not_eq_false'] at h
  rcases h with h | h
  · rw [h]; simp
  · rw [List.any_eq_true] at h
    obtain ⟨y, hy, hy2⟩ := h
    obtain ⟨j, hj, rfl⟩ := List.getElem_of_mem hy
    rw [List.length_take] at hj
    simp only [Bool.and_eq_true, not_and, Bool.not_eq_true]
    intro _
    rw [List.all_eq_false]
    refine ⟨j, List.mem_range.2 (by omega), ?_⟩
    rw [List.getD_eq_getElem?_getD, List.getElem?_eq_getElem (by omega), Option.getD_some]
    rw [List.getElem_take] at hy2
    rw [hy2]; simp
theorem ok_good {q : List It} (h : ∀ i (hi : i < q.length), itOne q[i] = true ∧ (q.take i).any (alikeB q[i]) = false) : listOk q = true := by
  unfold listOk
  rw [List.all_eq_true]
  intro i hi
  have hi := List.mem_range.1 hi
  obtain ⟨h1, h2⟩ := h i hi
  unfold itemOk
  rw [List.getD_eq_getElem?_getD, List.getElem?_eq_getElem hi, Option.getD_some, h1, Bool.true_and, List.all_eq_true]
  intro j hj
  have hj := List.mem_range.1 hj
  rw [List.getD_eq_getElem?_getD, List.getElem?_eq_getElem (by omega), Option.getD_some]
  rw [List.any_eq_false] at h2
  have hjq : j < q.length := by omega
  have h3 := h2 q[j] (List.mem_iff_getElem?.2 ⟨j, by rw [List.getElem?_take_of_lt hj, List.getElem?_eq_getElem hjq]⟩)
  simpa using h3
theorem shBad {q2 q3 L : Nat} {o : Obj} {w7 Wy wN : World} (h2 : Blk w7 q2 [.bool false] 4) (hq : q2 < q3 ∧ q2 < L ∧ q3 < w7.heap.size ∧ L < w7.heap.size) (h7 : Only (fun k => k = q3 ∨ k = L) w7 wN) (hy : Only (fun k => k = q3 ∨ k = L) Wy wN) :
    Only (fun k => k < w7.heap.size) Wy ((wN.setCell ⟨q2, 0, none⟩ (.bool false)).putObj L o) ∧ Only (fun k => k = q2 ∨ k = q3 ∨ k = L) w7 ((wN.setCell ⟨q2, 0, none⟩ (.bool false)).putObj L o) ∧ Blk ((wN.setCell ⟨q2, 0, none⟩ (.bool false)).putObj L o) q2 [.bool false] 4 ∧ ((wN.setCell ⟨q2, 0, none⟩ (.bool false)).putObj L o).heap[L]? = some o := by
  have hs := h7.size
  have a1 : Only (· = q2) wN (wN.setCell ⟨q2, 0, none⟩ (.bool false)) := Only.setCell (A := (· = q2)) wN (p := ⟨q2, 0, none⟩) rfl _
  have a2 : Only (· = L) (wN.setCell ⟨q2, 0, none⟩ (.bool false)) ((wN.setCell ⟨q2, 0, none⟩ (.bool false)).putObj L o) := Only.putObj (A := (· = L)) _ (b := L) rfl _
  refine ⟨((hy.mono (fun k _ e => by omega)).trans (a1.mono (fun k _ e => by have : k = q2 := e; omega))).trans (a2.mono (fun k _ e => by have : k = L := e; omega)), ((h7.mono (fun k _ e => .inr e)).trans (a1.mono (fun k _ e => .inl e))).trans (a2.mono (fun k _ e => .inr (.inr e))), a2.blk ((h7.blk h2 (by omega)).set 0 (.bool false)) (by omega), World.putObj_heap_same (by have := a1.size; omega)⟩
theorem mayTail {n : Nat} {fn : Func} {tmps : Array Value} {w5 : World} {q2 Db : Nat} {b : Bool} {R : Ending → World → Prop} (hfn : fn.results = #[.cell 2 4]) (ht : tmps.getD 2 undef = .pointer (some ⟨q2, 0, none⟩)) (hb : Blk w5 q2 [.bool b] 4) (hD : w5.heap[Db]? = some (.deferred (some [])))
    (hR : R (.returned (.bool b)) (w5.putObj Db (.deferred none))) : LeavesInM Fence.wide n Try.prog fn tmps R [markD Db] .returning w5 := by
  refine ⟨by simp, .inl ⟨_, _, rfl, run_takeDeferred hD, ?_⟩⟩
  have h5 := (Only.putObj (A := (· = Db)) w5 (b := Db) rfl (.deferred none)).blk hb (fun e => Blk.ne_obj hb hD rfl e.symm)
  exact ⟨_, results_cell1 hfn ht (h5.cells.runVar1 (fun _ => by kernel_rfl)), hR⟩
set_option maxRecDepth 1000000 in
set_option maxHeartbeats 16000000 in
theorem shMay_any (D lo hi : Nat) (l : List It) (v : Value) (w : World) (hv : Its D lo hi w v l) (hhi : hi ≤ w.heap.size) (ha : allL l ≤ 1000) (R : Ending → World → Prop)
    (hR : ∀ w', Below w.heap.size w w' → R (.returned (.bool (mayPat l))) w') : Calls Try.prog 21 #[v] w R := by
  have HR := Lib.hid hR
  have Hv := Lib.hid (Sl.mono hv (itE_loc D) (Nat.zero_le _) hhi)
  obtain ⟨pv, cv, rfl, -⟩ := hv.form
  have hll := allL_len l
  have Ha := Lib.hid ha
  have h1 := alloc_below w (.cells #[.bool false] 4)
  have b1 := Blk.new w [.bool false] 4 rfl
  have s1 : (w.alloc (.cells #[.bool false] 4)).heap.size = w.heap.size + 1 := by simp
  have h2 := alloc_below (w.alloc (.cells #[.bool false] 4)) (.cells #[.int .i64 0] 3)
  have b2 := Blk.new (w.alloc (.cells #[.bool false] 4)) [.int .i64 0] 3 rfl
  rw [s1] at b2 h2
  have b1 := b1.below h2 (by omega)
  have hBx : Below w.heap.size w ((w.alloc (.cells #[.bool false] 4)).alloc (.cells #[.int .i64 0] 3)) := h1.trans (h2.mono (by omega))
  clear hR hv h1 h2 s1
  refine (callsIn_wide (n := 3)).1 (callsIn_of_wp_marks Try.func21 rfl trivial ?_ rfl)
  refine wpIn_wide.2 ?_
  simp only [Try.ntmps21, List.size_toArray, List.length_cons, Nat.reduceAdd, Nat.reduceSub, Array.replicate_succ, Array.replicate_zero, List.push_toArray, List.append_toArray, List.nil_append, List.cons_append, List.length_nil]
  go_upto_region 2 with fail
  generalize (w.alloc (.cells #[.bool false] 4)).alloc (.cells #[.int .i64 0] 3) = w1 at *
  obtain ⟨q2, eq2⟩ : ∃ b, b = w.heap.size := ⟨_, rfl⟩
  rw [← eq2] at b1 b2 ⊢
  obtain ⟨q3, eq3⟩ : ∃ b, b = q2 + 1 := ⟨_, rfl⟩
  rw [← eq3] at b2 ⊢
  have hq : w.heap.size ≤ q2 ∧ q2 < q3 ∧ q3 < w1.heap.size := ⟨by omega, by omega, b2.lt⟩
  have HB1 := Lib.hid hBx
  have Hb2 := Lib.hid b1
  have Hb3 := Lib.hid b2
  have hz1 := hBx.size
  clear eq2 eq3 b1 b2 hBx
  go_wp2_with fail
  refine lists_any _ pv l.length cv rfl 1 w1 _ ?_
  have hBs := (alloc_below w1 (.cells #[.slice pv l.length cv] 24))
  have hBs2 := (alloc_below (w1.alloc (.cells #[.slice pv l.length cv] 24)) (.cells #[.int .i64 1] 3))
  have hsz6 : (w1.alloc (.cells #[.slice pv l.length cv] 24)).heap.size = w1.heap.size + 1 := by simp
  have hB6 : Below w1.heap.size w1 ((w1.alloc (.cells #[.slice pv l.length cv] 24)).alloc (.cells #[.int .i64 1] 3)) := hBs.trans (hBs2.mono (by omega))
  have hkk := (Blk.new w1 [.slice pv l.length cv] 24 rfl).below hBs2 (by omega)
  have hnk := Blk.new (w1.alloc (.cells #[.slice pv l.length cv] 24)) [.int .i64 1] 3 rfl
  rw [hsz6] at hnk
  clear hBs hBs2 hsz6
  generalize (w1.alloc (.cells #[.slice pv l.length cv] 24)).alloc (.cells #[.int .i64 1] 3) = w6 at *
  obtain ⟨kk, ekk⟩ : ∃ z, z = w1.heap.size := ⟨_, rfl⟩
  obtain ⟨nk, enk⟩ : ∃ z, z = w1.heap.size + 1 := ⟨_, rfl⟩
  rw [← ekk] at hkk ⊢
  rw [← enk] at hnk
  rw [show kk + 1 = nk by omega]
  have hks : q3 < kk ∧ q3 < nk := by omega
  have hkl := hkk.lt
  have hnl := hnk.lt
  clear ekk enk
  go_wp2_with fail
  refine wp_rangeFuncR 1 (gf := 62) rfl (enters_of Try.func62 (by kernel_rfl) rfl) (fun fn RL hRL => ?_)
  have HRL := Lib.hid hRL
  clear hRL
  have hB7 : Below w6.heap.size w6 ((w6.alloc (.deferred (some []))).alloc (.loop (RL .ready none))) := ((Below.refl _ _).alloc (Nat.le_refl _) _).alloc (by simp) _
  have hlD : ((w6.alloc (.deferred (some []))).alloc (.loop (RL .ready none))).heap[w6.heap.size]? = some (.deferred (some [])) := (Below.heap_alloc _ _ _ (by simp)).trans (World.alloc_heap_new w6 _)
  have hlL : ((w6.alloc (.deferred (some []))).alloc (.loop (RL .ready none))).heap[w6.heap.size + 1]? = some (.loop (RL .ready none)) := by
    have := World.alloc_heap_new (w6.alloc (.deferred (some []))) (.loop (RL .ready none))
    rwa [World.size_alloc] at this
  generalize (w6.alloc (.deferred (some []))).alloc (.loop (RL .ready none)) = w7 at *
  obtain ⟨Db, eDb⟩ : ∃ z, z = w6.heap.size := ⟨_, rfl⟩
  obtain ⟨L, eL⟩ : ∃ z, z = w6.heap.size + 1 := ⟨_, rfl⟩
  have hLz := heap_lt hlL
  rw [← eL] at hlL hLz ⊢
  rw [← eDb] at hlD ⊢
  have hz6 := hB6.size
  have hq7 : w.heap.size ≤ q2 ∧ q2 < q3 ∧ q3 < kk ∧ q3 < nk ∧ kk < Db ∧ nk < Db ∧ Db < L ∧ L < w7.heap.size := by omega
  have Hq := Lib.hid hq7
  have hB17 : Below w1.heap.size w1 w7 := hB6.trans (hB7.mono hz6)
  have HB7 := Lib.hid (HB1.out.trans (hB17.mono hz1))
  have Hc2 := Lib.hid (Hb2.out.below hB17 Hb2.out.lt)
  have Hc3 := Lib.hid (Hb3.out.below hB17 Hb3.out.lt)
  have Hnk := Lib.hid (hnk.below hB7 hnl)
  have Hkk := Lib.hid (hkk.below hB7 hkl)
  have HlD := Lib.hid hlD
  have HlL := Lib.hid hlL
  have Hv7 := Lib.hid (Sl.below Hv.out (itE_loc D) HB7.out (Nat.le_refl _))
  obtain ⟨tot, htot⟩ : ∃ tot, tot = listsP 1 l := ⟨_, rfl⟩
  have Htot := Lib.hid htot
  have Hlens : Hid (lensL tot ≤ 1000) := Lib.hid (by rw [htot]; exact Nat.le_trans (lists_lens 1 l) Ha.out)
  obtain ⟨J, hJ⟩ : ∃ J : Nat → World → Prop, J = fun i W => Only (fun k => k = q3 ∨ k = L) w7 W ∧ Blk W q3 [.int .i64 (lensL (tot.take i) : Nat)] 3 ∧ W.heap[L]? = some (.loop (RL .ready none)) ∧ ∀ p ∈ tot.take i, listFine p := ⟨_, rfl⟩
  obtain ⟨Z, hZ⟩ : ∃ Z : World → Prop, Z = fun W => Only (fun k => k = q2 ∨ k = q3 ∨ k = L) w7 W ∧ Blk W q2 [.bool false] 4 ∧ W.heap[L]? = some (.loop (RL .done (some .ret))) ∧ ∃ p ∈ tot, ¬ listFine p := ⟨_, rfl⟩
  have HJ := Lib.hid hJ
  have HZ := Lib.hid hZ
  have hJ0 : J 0 w7 := by
    rw [hJ]
    exact ⟨Only.refl _ _, by simpa [lensL] using Hc3.out, hlL, fun p hp => by simp at hp⟩
  clear htot hJ hZ hq7 hB17 hB7 hB6 hlD hlL hnk hkk hkl hnl eDb eL hLz hz6 hz1 hks hq
  refine (lists1_any D L w7.heap.size 0 w.heap.size nk kk w7 1 l _ tot J Z 0 w7 1 rfl ⟨?jS, ?zS, ?jA, ?jF, ?yl⟩ Hv7.out (by have := Hq.out; omega) (by decide) (by decide) (fun j _ => by rw [Nat.zero_add, Htot.out]) hJ0).mono ?hend
  case jS =>
    intro i Wa Wb h hO
    rw [HJ.out] at h ⊢
    obtain ⟨k1, k2, k3, k4⟩ := h
    have hq := Hq.out
    exact ⟨⟨hO.os.trans k1.os, hO.tape.trans k1.tape, hO.output.trans k1.output, Nat.le_trans k1.size hO.size, fun k hk hn => (hO.block k (Nat.lt_of_lt_of_le hk k1.size) (by omega)).trans (k1.block k hk hn)⟩, hO.blk k2 (by omega), (hO.block L (heap_lt k3) (by omega)).trans k3, k4⟩
  case zS =>
    intro Wa Wb h hO
    rw [HZ.out] at h ⊢
    obtain ⟨k1, k2, k3, k4⟩ := h
    have hq := Hq.out
    exact ⟨⟨hO.os.trans k1.os, hO.tape.trans k1.tape, hO.output.trans k1.output, Nat.le_trans k1.size hO.size, fun k hk hn => (hO.block k (Nat.lt_of_lt_of_le hk k1.size) (by omega)).trans (k1.block k hk hn)⟩, hO.blk k2 (by omega), (hO.block L (heap_lt k3) (by omega)).trans k3, k4⟩
  case jA =>
    intro i Wa h
    rw [HJ.out] at h
    have hq := Hq.out
    exact ⟨h.1.agree (by omega) (fun k e => .inr (by omega)), h.1.size⟩
  case jF =>
    intro i Wa h
    rw [HJ.out] at h
    have hq := Hq.out
    exact ⟨h.1.blk Hnk.out (by omega), h.1.blk Hkk.out (by omega)⟩
  case yl =>
    intro m2 i Wy D2 v' dq q hj hget hqv
    rw [HJ.out] at hj
    obtain ⟨k1, k2, k3, k4⟩ := hj
    have hq := Hq.out
    obtain ⟨qa, qc, rfl, -⟩ := hqv.form
    refine yieldAt_recR HRL.out k3 rfl ?_
    have Hk3 := Lib.hid k3
    have hO3 : Only (· = L) Wy (Wy.putObj L (.loop (RL .busy none))) := Only.putObj (A := (· = L)) Wy (b := L) rfl _
    have hl3 : (Wy.putObj L (.loop (RL .busy none))).heap[L]? = some (.loop (RL .busy none)) := World.putObj_heap_same (heap_lt k3)
    have HO3 : Hid (Only (fun k => k = q3 ∨ k = L) w7 (Wy.putObj L (.loop (RL .busy none)))) := Lib.hid (k1.trans (hO3.mono (fun k _ e => .inr e)))
    have hb3 := hO3.blk k2 (by omega)
    have Hq3 := Lib.hid (Sl.agree hqv (itE_loc _) (hO3.agree (by have := k1.size; omega) (fun k e => .inr (by have : k = L := e; omega))))
    have Hk4 := Lib.hid k4
    have HOy : Hid (Only (fun k => k = q3 ∨ k = L) Wy (Wy.putObj L (.loop (RL .busy none)))) := Lib.hid (hO3.mono (fun k _ e => .inr e))
    have hyz : w7.heap.size ≤ Wy.heap.size := k1.size
    have htk : lensL (tot.take (i + 1)) = lensL (tot.take i) + q.length := lensL_take hget
    have hle := lensL_le tot (i + 1)
    obtain ⟨mn, hmn⟩ : ∃ mn, mn = lensL (tot.take i) := ⟨_, rfl⟩
    rw [← hmn] at hb3 htk
    have hsum : mn + q.length ≤ 1000 := by have := Hlens.out; omega
    have Htk : Hid (lensL (tot.take (i + 1)) = mn + q.length) := Lib.hid htk
    have Hget := Lib.hid hget
    have hsz3 : (Wy.putObj L (.loop (RL .busy none))).heap.size = Wy.heap.size := World.putObj_size
    clear k1 k2 k3 k4 hqv hO3 htk hle hmn hget hq
    gi_wp2_with fail
    refine ⟨Hk3.out, ?_⟩
    generalize Wy.putObj L (.loop (RL .busy none)) = W3 at *
    have c3 := hb3.cells.c1
    have HOw : Hid (Only (fun k => k = q3 ∨ k = L) w7 W3) := HO3
    have HL3 := Lib.hid hl3
    have hb4 := hb3.set 0 (.int .i64 ((mn : Int) + (q.length : Int)))
    have hO34 : Only (· = q3) W3 (W3.setCell ⟨q3, 0, none⟩ (.int .i64 ((mn : Int) + (q.length : Int)))) := Only.setCell (A := (· = q3)) W3 (p := ⟨q3, 0, none⟩) rfl _
    have f3 := hb3.free 0
    have hq := Hq.out
    have hl4 := (hO34.block L (heap_lt hl3) (by omega)).trans hl3
    have HO4 : Hid (Only (fun k => k = q3 ∨ k = L) w7 (W3.setCell ⟨q3, 0, none⟩ (.int .i64 ((mn : Int) + (q.length : Int))))) := Lib.hid (HO3.out.trans (hO34.mono (fun k _ e => .inl e)))
    have HOy4 : Hid (Only (fun k => k = q3 ∨ k = L) Wy (W3.setCell ⟨q3, 0, none⟩ (.int .i64 ((mn : Int) + (q.length : Int))))) := Lib.hid (HOy.out.trans (hO34.mono (fun k _ e => .inl e)))
    have Hq4 := Lib.hid (Sl.agree Hq3.out (itE_loc _) (hO34.agree (by have := HO3.out.size; omega) (fun k e => .inr (by have : k = q3 := e; omega))))
    clear hO34 hq hl3 HOw
    gi_upto_region 6 with fail
    generalize W3.setCell ⟨q3, 0, none⟩ (.int .i64 ((mn : Int) + (q.length : Int))) = W4 at *
    have Hl4 := Lib.hid hl4
    have Hb4 := Lib.hid hb4
    have hz4 := HO4.out.size
    clear c3 f3 hl4
    have c3 := hb4.cells.c1
    have Hqs : Hid (q2 < q3 ∧ q2 < L ∧ q3 < w7.heap.size ∧ L < w7.heap.size) := Lib.hid (by have := Hq.out; omega)
    have Hbad : Hid (∀ wN, Below W4.heap.size W4 wN → ¬ listFine (dq, q) → wN.cell? ⟨q2, 0, none⟩ = some (.bool false) ∧ (wN.setCell ⟨q2, 0, none⟩ (.bool false)).heap[L]? = some (.loop (RL .busy none)) ∧ Only (fun k => k < w7.heap.size) Wy ((wN.setCell ⟨q2, 0, none⟩ (.bool false)).putObj L (.loop (RL .done (some .ret)))) ∧ Z ((wN.setCell ⟨q2, 0, none⟩ (.bool false)).putObj L (.loop (RL .done (some .ret))))) := Lib.hid (fun wN hB hn => by
      have h7 := HO4.out.trans (Below.only hB)
      obtain ⟨g1, g2, g3, g4⟩ := shBad (o := .loop (RL .done (some .ret))) Hc2.out Hqs.out h7 (HOy4.out.trans (Below.only hB))
      have hqs := Hqs.out
      refine ⟨(h7.blk Hc2.out (by omega)).cells.c1, ?_, g1, ?_⟩
      · exact ((Only.setCell (A := (· = q2)) wN (p := ⟨q2, 0, none⟩) rfl _).block L (by have := h7.size; omega) (by omega)).trans ((hB.block L (heap_lt Hl4.out)).trans Hl4.out)
      · rw [HZ.out]
        exact ⟨g2, g3, g4, _, List.mem_of_getElem? Hget.out, hn⟩)
    have Hfree : Hid (∀ wN, Below W4.heap.size W4 wN → Blk wN q2 [.bool false] 4) := Lib.hid (fun wN hB => (HO4.out.trans (Below.only hB)).blk Hc2.out (by have := Hqs.out; omega))
    clear hb4
    by_cases h20 : 20 < dq
    · obtain ⟨z2, z3, z4, z5⟩ := Hbad.out W4 (Below.refl _ _) (fun h => by have := h.1; simp only at this; omega)
      have z6 := (Hfree.out W4 (Below.refl _ _)).free 0
      have Z3 := Lib.hid z3
      have Z4 := Lib.hid z4
      have Z5 := Lib.hid z5
      clear z3 z4 z5
      gi_wp2_with fail
      all_goals try (rename_i bq h1 h2; exact absurd h1 (undef_ne bq))
      exact roundPost_retR HRL.out Z3.out ⟨Z4.out, .inr ⟨rfl, Z5.out⟩⟩
    · have H20 : Hid (dq ≤ 20) := Lib.hid (by omega)
      have hs1000 : ¬ (1000 : Int) < (mn : Int) + (q.length : Int) := by omega
      gi_wp2_with fail
      gi_loopw [24] (fun t24 wr => ∃ k : Nat, k ≤ q.length ∧ t24 = .int .i64 k ∧ Hid (Below W4.heap.size W4 wr) ∧ Hid (∀ i (hi : i < q.length), i < k → itOne q[i] = true ∧ (q.take i).any (alikeB q[i]) = false)) (fun t24 _ => q.length - (intOf t24).toNat)
      case atStart => exact ⟨0, Nat.zero_le _, rfl, Lib.hid (Below.refl _ _), Lib.hid (fun i hi h => by omega)⟩
      case round =>
        obtain ⟨k, hk, rfl, HB, Hok⟩ := hrel
        obtain ⟨wo, ewo⟩ : ∃ x, x = wr := ⟨_, rfl⟩
        subst ewo
        have hz := HB.out.size
        have kk0 : (0 : Int) ≤ (k : Int) := by omega
        by_cases hlt : k < q.length
        · have kkl : (k : Int) < (q.length : Int) := by omega
          have Hx := Lib.hid (Sl.below Hq4.out (itE_loc _) HB.out (by have := Hq.out; omega))
          obtain ⟨ao', cap', e', -, -, -, hc⟩ := Hx.out.form
          injection e' with e1 e2 e3
          subst e1 e3
          obtain ⟨b, off, rfl, hb1, hb2, hcc⟩ := hc k hlt
          obtain ⟨cs, -, hcs, hel⟩ := hcc k hlt
          have Hbd : Hid ((itOne q[k] && !((q.take k).any (alikeB q[k]))) = false → ¬ listFine (dq, q)) := Lib.hid (fun h hf => by have h1 := ok_bad hlt h; have h2 := hf.2; simp only at h2; rw [h1] at h2; cases h2)
          have Hnx : Hid (itOne q[k] = true → (q.take k).any (alikeB q[k]) = false → ∀ i (hi : i < q.length), i < k + 1 → itOne q[i] = true ∧ (q.take i).any (alikeB q[i]) = false) := Lib.hid (fun h1 h2 i hi hik => by
            by_cases e : i = k
            · subst e; exact ⟨h1, h2⟩
            · exact Hok.out i hi (by omega))
          generalize q[k] = x at *
          cases D2 with
          | zero => exact hel.elim
          | succ D2 =>
            obtain ⟨hlens, sv, rfl, hsub⟩ := hel
            have Hlens := Lib.hid hlens
            obtain ⟨sp, sc, rfl, -⟩ := hsub.form
            have hcs2 : CellsAt wo b (off + k * 11) [.bool x.wild, .string ⟨x.attr.toArray⟩, .bool x.back, .int .i64 x.limit, .bool x.has, .int .i64 x.dflt.kind, .int .i64 x.dflt.n, .string ⟨x.dflt.s.toArray⟩, .bool x.nested, .slice sp x.sub.length sc, .int .i64 x.rc] := hcs
            obtain ⟨x0, x1, x2, x3, x4, x5, x6, x7, x8, x9, x10⟩ := item_cells hcs2
            have hB5 := alloc_below wo (.cells #[.bool x.wild, .string ⟨x.attr.toArray⟩, .bool x.back, .int .i64 x.limit, .bool x.has, .int .i64 x.dflt.kind, .int .i64 x.dflt.n, .string ⟨x.dflt.s.toArray⟩, .bool x.nested, .slice sp x.sub.length sc, .int .i64 x.rc] 66)
            have hb5 := Blk.new wo [.bool x.wild, .string ⟨x.attr.toArray⟩, .bool x.back, .int .i64 x.limit, .bool x.has, .int .i64 x.dflt.kind, .int .i64 x.dflt.n, .string ⟨x.dflt.s.toArray⟩, .bool x.nested, .slice sp x.sub.length sc, .int .i64 x.rc] 66 rfl
            have Hfl := Lib.hid (Its.flat (Sl.below Hq4.out (itE_loc _) HB.out (by have := Hq.out; omega)))
            obtain ⟨v1, hrun, hs1⟩ := Sl.upTo Hfl.out 24 Try.underlying24 (fun _ => by kernel_rfl) k (by omega)
            have Hrun := Lib.hid hrun
            have Hs1 := Lib.hid hs1
            clear hc hcc hcs hcs2 hsub e2 hb1 hb2 hrun hs1 hlens c3
            gi_upto_region 11 with fail
            generalize wo.alloc (.cells #[.bool x.wild, .string ⟨x.attr.toArray⟩, .bool x.back, .int .i64 x.limit, .bool x.has, .int .i64 x.dflt.kind, .int .i64 x.dflt.n, .string ⟨x.dflt.s.toArray⟩, .bool x.nested, .slice sp x.sub.length sc, .int .i64 x.rc] 66) = w5 at *
            obtain ⟨b5, eb5⟩ : ∃ b, b = wo.heap.size := ⟨_, rfl⟩
            rw [← eb5] at hb5 ⊢
            have hz5 := hB5.size
            have Hb5 := Lib.hid hb5
            have HB5 := Lib.hid hB5
            clear x0 x1 x2 x3 x4 x5 x6 x7 x8 x9 x10 hB5 eb5
            obtain ⟨x0, x1, x2, x3, x4, x5, x6, x7, x8, x9, x10⟩ := item_cells hb5.cells
            simp only [Nat.zero_add] at x1 x2 x3 x4 x5 x6 x7 x8 x9 x10
            clear hb5
            gi_wp2_with fail
            refine ⟨by first | trivial | simp, fun h => (by simp [Fence.wide] at h), callsIn_wide.2 (shOne_any x sp sc w5 Hlens.out _ (fun w6 hB6 => ?_))⟩
            have hz6 := hB6.size
            have HB6 : Hid (Below W4.heap.size W4 w6) := Lib.hid ((HB.out.trans (HB5.out.mono hz)).trans (hB6.mono (by omega)))
            have Hb6 := Lib.hid (Hb5.out.below hB6 Hb5.out.lt)
            have HB56 : Hid (Below wo.heap.size wo w6) := Lib.hid (HB5.out.trans (hB6.mono hz5))
            obtain ⟨o1, ho1⟩ : ∃ o1, o1 = itOne x := ⟨_, rfl⟩
            rw [← ho1]
            have Ho1 := Lib.hid ho1
            clear ho1 hB6 x0 x1 x2 x3 x4 x5 x6 x7 x8 x9 x10
            cases o1 with
            | false =>
              obtain ⟨z2, z3, z4, z5⟩ := Hbad.out w6 HB6.out (Hbd.out (by rw [← Ho1.out]; rfl))
              have z6 := (Hfree.out w6 HB6.out).free 0
              have Z3 := Lib.hid z3
              have Z4 := Lib.hid z4
              have Z5 := Lib.hid z5
              clear z3 z4 z5
              gi_wp2_with fail
              refine ⟨by first | trivial | simp, ?_⟩
              gi_wp2_with fail
              exact roundPost_retR HRL.out Z3.out ⟨Z4.out, .inr ⟨rfl, Z5.out⟩⟩
            | true =>
              have hrun := Hrun.out
              gi_wp2_with fail
              refine ⟨by first | trivial | simp, fun h => (by simp [Fence.wide] at h), callsIn_wide.2 (ContainsFunc_it 0 w.heap.size v1 (q.take k) 37 #[.pointer (some ⟨b5, 0, none⟩)] (alikeB x) w6 (Sl.below Hs1.out itF_loc HB56.out (by have := Hq.out; omega)) (by have := Hq.out; omega) (enters_of Try.func37 (by kernel_rfl) rfl) (fun a sp2 sc2 w' R' hB' hR' => may1_any x a sp sp2 sc sc2 b5 w' (Hb6.out.below hB' Hb6.out.lt) R' hR') _ (fun bq w8 hbq hB8 => ?_))⟩
              have HB8 : Hid (Below W4.heap.size W4 w8) := Lib.hid (HB6.out.trans (hB8.mono (by omega)))
              have Hbq := Lib.hid hbq
              clear hB8 hbq hrun
              cases bq with
              | true =>
                obtain ⟨z2, z3, z4, z5⟩ := Hbad.out w8 HB8.out (Hbd.out (by rw [← Hbq.out]; simp))
                have z6 := (Hfree.out w8 HB8.out).free 0
                have Z3 := Lib.hid z3
                have Z4 := Lib.hid z4
                have Z5 := Lib.hid z5
                clear z3 z4 z5
                gi_wp2_with fail
                exact roundPost_retR HRL.out Z3.out ⟨Z4.out, .inr ⟨rfl, Z5.out⟩⟩
              | false =>
                have Hnn := Lib.hid (Hnx.out Ho1.out.symm Hbq.out.symm)
                gi_wp2_with fail
                go_roundw
                case rel => exact ⟨k + 1, by omega, by go_num, HB8, Hnn⟩
                case measure => simp [intOf]; omega
        · have hke : k = q.length := by omega
          have kkl : ¬ ((k : Nat) : Int) < (q.length : Int) := by omega
          have hgood : listOk q = true := ok_good (fun i hi => Hok.out i hi (by omega))
          have hfine : listFine (dq, q) := ⟨H20.out, hgood⟩
          have hlo := (HB.out.block L (heap_lt Hl4.out)).trans Hl4.out
          have hO9 : Only (fun k => k = q3 ∨ k = L) w7 (wo.putObj L (.loop (RL .ready none))) := (HO4.out.trans (Below.only HB.out)).trans (Only.putObj (A := fun k => k = q3 ∨ k = L) wo (b := L) (.inr rfl) _)
          have hy9 : Only (fun k => k < w7.heap.size) Wy (wo.putObj L (.loop (RL .ready none))) := ((HOy4.out.trans (Below.only HB.out)).trans (Only.putObj (A := fun k => k = q3 ∨ k = L) wo (b := L) (.inr rfl) _)).mono (fun k _ e => by have := Hqs.out; omega)
          have hj9 : J (i + 1) (wo.putObj L (.loop (RL .ready none))) := by
            rw [HJ.out]
            refine ⟨hO9, ?_, World.putObj_heap_same (heap_lt hlo), fun p hp => ?_⟩
            · rw [Htk.out]
              exact (Only.putObj (A := (· = L)) wo (b := L) rfl _).blk (Hb4.out.below HB.out Hb4.out.lt) (by have := Hqs.out; have := Hq.out; omega)
            · obtain ⟨hi, e⟩ := List.getElem?_eq_some_iff.1 Hget.out
              rw [List.take_succ_eq_append_getElem hi, e] at hp
              rcases List.mem_append.1 hp with hp | hp
              · exact Hk4.out p hp
              · obtain rfl := List.mem_singleton.1 hp; exact hfine
          have Hlo := Lib.hid hlo
          have Hy9 := Lib.hid hy9
          have Hj9 := Lib.hid hj9
          clear hke hfine hlo hO9 hy9 hj9 c3
          gi_wp2_with fail
          exact roundPost_normalR HRL.out Hlo.out ⟨Hy9.out, .inl ⟨rfl, Hj9.out⟩⟩
  case hend =>
    rintro e W8 ⟨⟨v8, rfl⟩, hO8, hx8 | hx8⟩
    · rw [HJ.out] at hx8
      obtain ⟨k1, k2, k3, k4⟩ := hx8
      have hq := Hq.out
      have hmay : mayPat l = true := (lists_may Ha.out).1 (by
        rw [Nat.zero_add, ← Htot.out, List.take_length] at k4
        rw [← Htot.out]; exact k4)
      refine ⟨⟨v8, rfl⟩, .ready, none, by simp, k3, ?_⟩
      have h7 : Only (· = L) W8 (W8.putObj L (.loop (RL .exhausted none))) := Only.putObj (A := (· = L)) _ (b := L) rfl _
      have h79 := k1.trans (h7.mono (A' := fun k => k = q3 ∨ k = L) (fun k _ e => .inr e))
      clear k1 k2 k3 k4 h7 hO8
      show Exit.inBlock 0 _ Exit.normal _ (W8.putObj L (.loop (RL .exhausted none)))
      generalize W8.putObj L (.loop (RL .exhausted none)) = W9 at *
      have hz9 := h79.size
      have hb9 := h79.blk Hc2.out (by omega)
      have z1 := hb9.cells.c1
      have z2 := hb9.free 0
      have hba := hb9.set 0 (.bool true)
      have hO9 : Only (· = q2) W9 (W9.setCell ⟨q2, 0, none⟩ (.bool true)) := Only.setCell (A := (· = q2)) W9 (p := ⟨q2, 0, none⟩) rfl _
      have hD9 : (W9.setCell ⟨q2, 0, none⟩ (.bool true)).heap[Db]? = some (.deferred (some [])) := (hO9.block Db (by omega) (by omega)).trans ((h79.block Db (by omega) (by omega)).trans HlD.out)
      have hOa : Only (fun k => w.heap.size ≤ k) w7 ((W9.setCell ⟨q2, 0, none⟩ (.bool true)).putObj Db (.deferred none)) := ((h79.mono (fun k _ e => by omega)).trans (hO9.mono (fun k _ e => by have : k = q2 := e; omega))).trans (Only.putObj (A := fun k => w.heap.size ≤ k) _ (b := Db) (by omega) _)
      have hr := HR.out _ (HB7.out.trans (hOa.below HB7.out.size (fun k e => e)))
      rw [hmay] at hr
      have HT2 := Lib.hid (fun (fn : Func) (tmps : Array Value) hfn ht => mayTail (n := 3) (fn := fn) (tmps := tmps) (R := R) hfn ht hba hD9 hr)
      clear hba hO9 hD9 hOa hr h79 hmay hq hz9 hb9
      go_wp2_with fail
      first | exact HT2.out _ _ rfl rfl | (simp only [Exit.noGoto]; exact HT2.out _ _ rfl rfl)
    · rw [HZ.out] at hx8
      obtain ⟨k1, k2, k3, p0, hp0, hnf⟩ := hx8
      have hq := Hq.out
      have hmay : mayPat l = false := by
        cases hm : mayPat l with
        | false => rfl
        | true => exact absurd ((lists_may Ha.out).2 hm p0 (by rw [← Htot.out]; exact hp0)) hnf
      refine ⟨⟨v8, rfl⟩, .done, (some .ret), by simp, k3, ?_⟩
      have h7 : Only (· = L) W8 (W8.putObj L (.loop (RL .exhausted (some .ret)))) := Only.putObj (A := (· = L)) _ (b := L) rfl _
      have h79 := k1.trans (h7.mono (A' := fun k => k = q2 ∨ k = q3 ∨ k = L) (fun k _ e => .inr (.inr e)))
      have hba := h7.blk k2 (by omega)
      clear k1 k2 k3 h7 hO8
      show Code.wp _ _ (Exit.inBlock 0 _) _ (W8.putObj L (.loop (RL .exhausted (some .ret))))
      generalize W8.putObj L (.loop (RL .exhausted (some .ret))) = W9 at *
      have hz9 := h79.size
      have hD9 : W9.heap[Db]? = some (.deferred (some [])) := (h79.block Db (by omega) (by omega)).trans HlD.out
      have hOa : Only (fun k => w.heap.size ≤ k) w7 (W9.putObj Db (.deferred none)) := (h79.mono (fun k _ e => by omega)).trans (Only.putObj (A := fun k => w.heap.size ≤ k) _ (b := Db) (by omega) _)
      have hr := HR.out _ (HB7.out.trans (hOa.below HB7.out.size (fun k e => e)))
      rw [hmay] at hr
      have HT2 := Lib.hid (fun (fn : Func) (tmps : Array Value) hfn ht => mayTail (n := 3) (fn := fn) (tmps := tmps) (R := R) hfn ht hba hD9 hr)
      clear hba hD9 hOa hr h79 hmay hq hz9
      go_wp2_with fail
      first | exact HT2.out _ _ rfl rfl | (simp only [Exit.noGoto]; exact HT2.out _ _ rfl rfl)
set_option maxRecDepth 100000 in
set_option maxHeartbeats 1000000 in
theorem shape_any : PShape := by
  intro D lo hi l v w hv hhi ha hd R hR
  have HR := Lib.hid hR
  have Hv := Lib.hid hv
  clear hR hv
  go_enter Try.func12, Try.ntmps12
  go_wp2_with fail
  refine shMay_any D lo hi l v w Hv.out hhi ha _ (fun w1 hB => ?_)
  have hr := HR.out w1 hB
  obtain ⟨mp, hmp⟩ : ∃ mp, mp = mayPat l := ⟨_, rfl⟩
  rw [← hmp] at hr ⊢
  clear hmp
  cases mp with
  | true =>
    go_wp2_with fail
    first | exact hr | exact fin hr rfl
  | false =>
    go_wp2_with fail
    first | exact hr | exact fin hr rfl
end Go.Proofs.Yticbhfmpnmolcaa
end

/- Facts of an argument, opened. -/
section
set_option linter.unusedVariables false
set_option linter.unusedSimpArgs false
namespace Go.Proofs.Yticbhfmpnmolcaa
open Go.ChangeShapes Go.WideShapes Go.ChangeAt Go.RowKit
def in64 (n : Int) : Prop := -9223372036854775808 ≤ n ∧ n ≤ 9223372036854775807
def Sp.ok (s : Sp) : Prop := in64 s.f ∧ in64 s.t
def V.fine (v : V) : Prop := in64 v.kind ∧ in64 v.n ∧ v.s.length ≤ 9223372036854775807
def Ft.ok (x : Ft) : Prop := in64 x.e ∧ in64 x.a ∧ x.v.fine ∧ ∀ s ∈ x.sp, s.ok
set_option maxRecDepth 100000 in
theorem el_sp {H : Type} {enc : TypeId × Value → H} {w : World} (n : Nat) (cs : List Value) (x : DataW H × List MemPlace) (hl : cs.length = 2)
    (h : DataW.trod enc Try.prog w 0 (fun _ => true) true n 104 cs = some x) : ∃ a : Sp, flat Sp.enc 0 w.heap.size w cs a ∧ a.ok := by
  obtain ⟨xs, m, _, _, _, hxl, hf⟩ := DataW.trod_struct Try.underlying104 h
  have k1 : Try.prog.cellsOf 2 = 1 := by kernel_rfl
  match cs, hl with
  | [c0, c1], _ =>
    match xs, hxl with
    | [y0, y1], _ =>
      have g0 := hf 0 _ rfl
      have g1 := hf 1 _ rfl
      simp [k1] at g0 g1
      obtain ⟨i, e0, -, b0⟩ := DataW.trod_int Try.underlying2 g0
      obtain ⟨j, e1, -, b1⟩ := DataW.trod_int Try.underlying2 g1
      simp at e0 e1
      subst e0 e1
      exact ⟨⟨i, j⟩, rfl, bd_i64 b0, bd_i64 b1⟩
set_option maxRecDepth 100000 in
theorem el_val {H : Type} {enc : TypeId × Value → H} {w : World} (n : Nat) (cs : List Value) (x : DataW H × List MemPlace) (hl : cs.length = 3)
    (h : DataW.trod enc Try.prog w 0 (fun _ => true) true n 39 cs = some x) : ∃ a : V, cs = [.int .i64 a.kind, .int .i64 a.n, .string ⟨a.s.toArray⟩] ∧ a.fine := by
  obtain ⟨xs, m, _, _, _, hxl, hf⟩ := DataW.trod_struct Try.underlying39 h
  have k1 : Try.prog.cellsOf 2 = 1 := by kernel_rfl
  have k2 : Try.prog.cellsOf 9 = 1 := by kernel_rfl
  have k3 : Try.prog.cellsOf 3 = 1 := by kernel_rfl
  match cs, hl with
  | [c0, c1, c2], _ =>
    match xs, hxl with
    | [y0, y1, y2], _ =>
      have g0 := hf 0 _ rfl
      have g1 := hf 1 _ rfl
      have g2 := hf 2 _ rfl
      simp [k1, k2, k3] at g0 g1 g2
      obtain ⟨i, e0, -, b0⟩ := DataW.trod_int Try.underlying3 g0
      obtain ⟨t, e1, -, b1⟩ := DataW.trod_int Try.underlying2 g1
      obtain ⟨s, e2, -, b2⟩ := DataW.trod_string Try.underlying9 g2
      simp at e0 e1 e2
      have hlen : s.data.toList.length = s.size := by rw [Array.length_toList]; rfl
      subst e0 e1 e2
      exact ⟨⟨i, t, s.data.toList⟩, rfl, bd_i64 b0, bd_i64 b1, by rw [hlen]; simp only [maxLen] at b2; omega⟩
set_option maxRecDepth 100000 in
theorem el_ft {H : Type} {enc : TypeId × Value → H} {w : World} (n : Nat) (cs : List Value) (x : DataW H × List MemPlace) (hl : cs.length = 6)
    (h : DataW.trod enc Try.prog w 0 (fun _ => true) true n 42 cs = some x) : ∃ a : Ft, ftE 0 w.heap.size w cs a ∧ a.ok := by
  obtain ⟨xs, m, _, _, _, hxl, hf⟩ := DataW.trod_struct Try.underlying42 h
  have k1 : Try.prog.cellsOf 2 = 1 := by kernel_rfl
  have k2 : Try.prog.cellsOf 39 = 3 := by kernel_rfl
  have k3 : Try.prog.cellsOf 40 = 1 := by kernel_rfl
  match cs, hl with
  | [c0, c1, c2, c3, c4, c5], _ =>
    match xs, hxl with
    | [y0, y1, y2, y3], _ =>
      have g0 := hf 0 _ rfl
      have g1 := hf 1 _ rfl
      have g2 := hf 2 _ rfl
      have g3 := hf 3 _ rfl
      simp [k1, k2, k3] at g0 g1 g2 g3
      obtain ⟨i, e0, -, b0⟩ := DataW.trod_int Try.underlying2 g0
      obtain ⟨j, e1, -, b1⟩ := DataW.trod_int Try.underlying2 g1
      obtain ⟨v, e2, b2⟩ := el_val _ _ _ rfl g2
      obtain ⟨l, s3, b3⟩ := open_sl (α := Sp) (E := flat Sp.enc) (ok := Sp.ok) Try.underlying40 (size := 2) (by kernel_rfl) (by decide) el_sp g3
      simp at e0 e1 e2
      obtain ⟨rfl, rfl, rfl⟩ := e2
      subst e0 e1
      exact ⟨⟨i, j, v, l⟩, ⟨c5, rfl, s3⟩, bd_i64 b0, bd_i64 b1, b2, b3⟩
/-- How many elements a slice of an argument has, by what it weighs. -/
theorem sl_many {H : Type} {enc : TypeId × Value → H} {P : Program} {w : World} {ts : List TypeId} {ds : List (DataW H)} {t e : TypeId} {j n len cap bytes : Nat} {a : Option Addr} {x : DataW H × List MemPlace}
    (hw : (DataW.weightsEach P ts ds).all (· ≤ reachBytes) = true) (ht : ts[j]? = some t) (hd : ds[j]? = some x.1) (hu : P.underlying t = some (.slice e)) (hb : P.bytesOf e = bytes)
    (h : DataW.trod enc P w 0 (fun _ => true) true n t [.slice a len cap] = some x) : len * bytes ≤ 140737488355328 := by
  rcases Deep.open_slice hu h with ⟨hcs, -⟩ | ⟨a', len', cap', m, n', D, Pl, hcs, -, -, -, -, hx, -⟩
  · simp only [List.cons.injEq, and_true, Value.slice.injEq] at hcs
    rw [hcs.2.1]; omega
  · simp only [List.cons.injEq, and_true, Value.slice.injEq] at hcs
    rw [hx] at hd
    have := sized_slice hw ht hd hu
    rw [hb, List.length_map, List.length_range, hcs.2.1.symm] at this
    have h2 : len * bytes ≤ (len + (List.map (fun j => D (len + j)) (List.range (m - len))).length) * bytes := Nat.mul_le_mul_right _ (Nat.le_add_right _ _)
    have h3 := reachBytes_lt
    omega
end Go.Proofs.Yticbhfmpnmolcaa
end

/- Items, which hold items, lifted: what is read of a list of them lies in memory as a pattern does. -/
section
set_option linter.unusedVariables false
set_option linter.unusedSimpArgs false
namespace Go.Proofs.Yticbhfmpnmolcaa
open Go.ChangeShapes Go.WideShapes Go.ChangeAt Go.RowKit
set_option linter.unusedVariables false
set_option linter.unusedSimpArgs false
section
variable {H : Type} {enc : TypeId × Value → H} {P : Program}
/-- A slice opened, its elements by 'hel', of each of which Q holds. -/
theorem open_slQ {α : Type} [Inhabited α] {E : El α} {Q : DataW H → Prop} {w : World} {t e : TypeId} {size : Nat} (ht : P.underlying t = some (.slice e)) (hC : P.cellsOf e = size) (hpos : 0 < size)
    (hel : ∀ n cs y, cs.length = size → DataW.trod enc P w 0 (fun _ => true) true n e cs = some y → Q y.1 → ∃ a : α, E 0 w.heap.size w cs a)
    {n : Nat} {v : Value} {x : DataW H × List MemPlace} (h : DataW.trod enc P w 0 (fun _ => true) true n t [v] = some x) (hQ : ∀ elems spare, x.1 = .slice elems spare → ∀ d ∈ elems, Q d) : ∃ xs : List α, Sl E size 0 w.heap.size w v xs := by
  rcases Deep.open_slice ht h with ⟨hcs, _⟩ | ⟨a, len, cap, m, n, D, Pl, hcs, _, hl, hm, hmm, hx, hi⟩
  · simp only [List.cons.injEq, and_true] at hcs
    subst hcs
    exact ⟨[], Sl.nil _ _ _ _ _⟩
  · simp only [List.cons.injEq, and_true] at hcs
    subst hcs
    simp only [if_true] at hmm
    subst hmm
    rw [hC] at hi
    have hq := hQ _ _ (by rw [hx])
    have hi' : ∀ i, i < len → ∃ y : α × List Value, y.2.length = size ∧ (∀ j, j < size → w.cell? ((a.add (i * size)).add j) = y.2[j]?) ∧ E 0 w.heap.size w y.2 y.1 := by
      intro i hil
      obtain ⟨cs', hc, ht'⟩ := hi i (by omega)
      obtain ⟨_, hcl, hat⟩ := World.cells?_some hc
      obtain ⟨x, hx⟩ := hel _ _ _ hcl ht' (hq _ (List.mem_map.2 ⟨i, List.mem_range.2 hil, rfl⟩))
      exact ⟨(x, cs'), hcl, hat, hx⟩
    have : Inhabited (α × List Value) := ⟨(default, [])⟩
    obtain ⟨f, hf⟩ := Deep.choose_lt hi'
    have hlen : ((List.range len).map fun i => (f i).1).length = len := by simp
    refine ⟨(List.range len).map fun i => (f i).1, ⟨some a, m, by rw [hlen], by rw [hlen]; exact hl, hm, (fun h => by cases h), fun hne => ?_⟩⟩
    have h0 : 0 < len := by
      cases len with
      | zero => simp at hne
      | succ k => omega
    obtain ⟨b, off, spot⟩ := a
    obtain ⟨l0, c0, _⟩ := hf 0 h0
    have hc0 := c0 0 hpos
    rw [List.getElem?_eq_getElem (by omega)] at hc0
    have hs : spot = none := by simpa [Addr.add] using World.cell?_spot hc0
    subst hs
    have hb := World.block_lt_of_cell? _ _ hc0
    refine ⟨b, off, rfl, Nat.zero_le _, by simpa [Addr.add] using hb, fun k hk => ?_⟩
    rw [hlen] at hk
    obtain ⟨l1, c1, e1⟩ := hf k hk
    refine ⟨(f k).2, l1, fun j v hj => ?_, by simpa using e1⟩
    have hj' : j < size := by have := (List.getElem?_eq_some_iff.1 hj).1; omega
    have := c1 j hj'
    rw [hj, Deep.add_add, Addr.add_lit, ← Nat.add_assoc] at this
    exact this
end
/-- What is read is nowhere greater than memory is. -/
def wOk {H : Type} (t : TypeId) (d : DataW H) : Prop := ∀ u ∈ d.weights Try.prog t, u ≤ reachBytes
theorem wOk.part {H : Type} {t : TypeId} {fs : Array Field} {parts : List (DataW H)} (h : wOk t (.agg parts)) (ht : Try.prog.underlying t = some (.struct fs)) {j : Nat} {f : Field} {d : DataW H} (hf : fs[j]? = some f) (hd : parts[j]? = some d) : wOk f.type d := fun u hu => by
  refine h u ?_
  rw [DataW.weights, ht]
  exact DataW.weights_mem_each (j := j) (by rw [List.getElem?_map]; simp [hf]) hd u hu
theorem weightsAll_mem {H : Type} {P : Program} {e : TypeId} : ∀ {l : List (DataW H)} {d : DataW H}, d ∈ l → ∀ u ∈ d.weights P e, u ∈ DataW.weightsAll P e l
  | [], _, h, _, _ => by cases h
  | x :: r, d, h, u, hu => by
    rw [DataW.weightsAll, List.mem_append]
    rcases List.mem_cons.1 h with rfl | h
    · exact .inl hu
    · exact .inr (weightsAll_mem h u hu)
theorem wOk.elem {H : Type} {t e : TypeId} {elems spare : List (DataW H)} (h : wOk t (.slice elems spare)) (ht : Try.prog.underlying t = some (.slice e)) {d : DataW H} (hd : d ∈ elems) : wOk e d := fun u hu => by
  refine h u ?_
  rw [DataW.weights, ht]
  exact List.mem_cons_of_mem _ (List.mem_append_left _ (weightsAll_mem hd u hu))
theorem wOk.str {H : Type} {t : TypeId} {b : List UInt8} (h : wOk t (.lit (.string b) : DataW H)) : b.length ≤ 281474976710656 := by
  have h1 := h b.length (by simp [DataW.weights])
  have h2 := reachBytes_lt
  omega
set_option maxRecDepth 100000 in
theorem el_valW {H : Type} {enc : TypeId × Value → H} {w : World} (n : Nat) (cs : List Value) (x : DataW H × List MemPlace) (hl : cs.length = 3)
    (h : DataW.trod enc Try.prog w 0 (fun _ => true) true n 39 cs = some x) (hw : wOk 39 x.1) : ∃ a : V, cs = a.enc ∧ a.s.length ≤ 281474976710656 := by
  obtain ⟨xs, m, _, rfl, _, hxl, hf⟩ := DataW.trod_struct Try.underlying39 h
  have k1 : Try.prog.cellsOf 9 = 1 := by kernel_rfl
  have k2 : Try.prog.cellsOf 3 = 1 := by kernel_rfl
  have k3 : Try.prog.cellsOf 2 = 1 := by kernel_rfl
  match cs, hl with
  | [c0, c1, c2], _ =>
    match xs, hxl with
    | [y0, y1, y2], _ =>
      have g0 := hf 0 _ rfl
      have g1 := hf 1 _ rfl
      have g2 := hf 2 _ rfl
      have w2 := hw.part Try.underlying39 (j := 2) rfl rfl
      simp [k1, k2, k3] at g0 g1 g2
      obtain ⟨i, e0, -⟩ := DataW.trod_int Try.underlying3 g0
      obtain ⟨t, e1, -⟩ := DataW.trod_int Try.underlying2 g1
      obtain ⟨s, e2, d2, -⟩ := DataW.trod_string Try.underlying9 g2
      simp at e0 e1 e2
      subst e0 e1 e2
      refine ⟨⟨i, t, s.data.toList⟩, rfl, ?_⟩
      rw [d2] at w2
      exact w2.str
set_option maxRecDepth 100000 in
theorem el_item {H : Type} {enc : TypeId × Value → H} {w : World} (s n : Nat) (cs : List Value) (x : DataW H × List MemPlace) (hl : cs.length = 11)
    (h : DataW.trod enc Try.prog w 0 (fun _ => true) true n 66 cs = some x) (hw : wOk 66 x.1)
    (ih : ∀ n v y, SizeOf.sizeOf y.1 < SizeOf.sizeOf x.1 → DataW.trod enc Try.prog w 0 (fun _ => true) true n 24 [v] = some y → wOk 24 y.1 → ∃ l, Its s 0 w.heap.size w v l) : ∃ a : It, itE (s + 1) 0 w.heap.size w cs a := by
  obtain ⟨xs, m, _, rfl, _, hxl, hf⟩ := DataW.trod_struct Try.underlying66 h
  have k1 : Try.prog.cellsOf 4 = 1 := by kernel_rfl
  have k2 : Try.prog.cellsOf 9 = 1 := by kernel_rfl
  have k3 : Try.prog.cellsOf 3 = 1 := by kernel_rfl
  have k4 : Try.prog.cellsOf 39 = 3 := by kernel_rfl
  have k5 : Try.prog.cellsOf 24 = 1 := by kernel_rfl
  match cs, hl with
  | [c0, c1, c2, c3, c4, c5, c6, c7, c8, c9, c10], _ =>
    match xs, hxl with
    | [y0, y1, y2, y3, y4, y5, y6, y7, y8], _ =>
      have g0 := hf 0 _ rfl
      have g1 := hf 1 _ rfl
      have g2 := hf 2 _ rfl
      have g3 := hf 3 _ rfl
      have g4 := hf 4 _ rfl
      have g5 := hf 5 _ rfl
      have g6 := hf 6 _ rfl
      have g7 := hf 7 _ rfl
      have g8 := hf 8 _ rfl
      have w1 := hw.part Try.underlying66 (j := 1) rfl rfl
      have w5 := hw.part Try.underlying66 (j := 5) rfl rfl
      have w7 := hw.part Try.underlying66 (j := 7) rfl rfl
      simp [k1, k2, k3, k4, k5] at g0 g1 g2 g3 g4 g5 g6 g7 g8
      obtain ⟨z0, e0, -⟩ := DataW.trod_bool Try.underlying4 g0
      obtain ⟨z1, e1, d1, -⟩ := DataW.trod_string Try.underlying9 g1
      obtain ⟨z2, e2, -⟩ := DataW.trod_bool Try.underlying4 g2
      obtain ⟨z3, e3, -⟩ := DataW.trod_int Try.underlying3 g3
      obtain ⟨z4, e4, -⟩ := DataW.trod_bool Try.underlying4 g4
      obtain ⟨z5, e5, b5⟩ := el_valW _ _ _ rfl g5 w5
      obtain ⟨z6, e6, -⟩ := DataW.trod_bool Try.underlying4 g6
      obtain ⟨z7, hz7⟩ := ih _ _ _ (by
        have h1 : y7.1 ∈ [y0, y1, y2, y3, y4, y5, y6, y7, y8].map (·.1) := List.mem_map.2 ⟨y7, by simp, rfl⟩
        have h2 := List.sizeOf_lt_of_mem h1
        simp only [DataW.agg.sizeOf_spec]
        omega) g7 w7
      obtain ⟨z8, e8, -⟩ := DataW.trod_int Try.underlying3 g8
      simp at e0 e1 e2 e3 e4 e6 e8
      unfold V.enc at e5
      simp only [List.cons.injEq, and_true] at e5
      obtain ⟨f0, f1, f2⟩ := e5
      subst e0 e1 e2 e3 e4 e6 e8 f0 f1 f2
      rw [d1] at w1
      exact ⟨⟨z0, z1.data.toList, z2, z3, z4, z5, z6, z7, z8⟩, ⟨w1.str, b5⟩, c9, rfl, hz7⟩
theorem open_its {H : Type} {enc : TypeId × Value → H} {w : World} : ∀ (s n : Nat) (v : Value) (x : DataW H × List MemPlace), SizeOf.sizeOf x.1 < s →
    DataW.trod enc Try.prog w 0 (fun _ => true) true n 24 [v] = some x → wOk 24 x.1 → ∃ l, Its s 0 w.heap.size w v l := by
  intro s
  induction s with
  | zero => intro n v x h; omega
  | succ s ih =>
    intro n v x hs h hw
    refine open_slQ (α := It) (E := itE (s + 1)) (Q := fun d => SizeOf.sizeOf d < s ∧ wOk 66 d) Try.underlying24 (size := 11) (by kernel_rfl) (by decide) (fun n cs y hl h hq => el_item s n cs y hl h hq.2 (fun n' v' y' hy' => ih n' v' y' (by omega))) h (fun elems spare hx d hd => ?_)
    rw [hx] at hw hs
    refine ⟨?_, hw.elem Try.underlying24 hd⟩
    have h2 := List.sizeOf_lt_of_mem hd
    simp only [DataW.slice.sizeOf_spec] at hs
    omega
def Attr.okI (a : Attr) : Prop := (-9223372036854775808 ≤ a.id ∧ a.id ≤ 9223372036854775807) ∧ a.name.length ≤ 9223372036854775807
set_option maxRecDepth 100000 in
theorem el_attrI {H : Type} {enc : TypeId × Value → H} {w : World} (n : Nat) (cs : List Value) (x : DataW H × List MemPlace) (hl : cs.length = 7)
    (h : DataW.trod enc Try.prog w 0 (fun _ => true) true n 28 cs = some x) : ∃ a : Attr, flat Attr.enc 0 w.heap.size w cs a ∧ a.okI := by
  obtain ⟨xs, m, _, _, _, hxl, hf⟩ := DataW.trod_struct Try.underlying28 h
  have k1 : Try.prog.cellsOf 2 = 1 := by kernel_rfl
  have k2 : Try.prog.cellsOf 9 = 1 := by kernel_rfl
  have k3 : Try.prog.cellsOf 3 = 1 := by kernel_rfl
  have k4 : Try.prog.cellsOf 4 = 1 := by kernel_rfl
  match cs, hl with
  | [c0, c1, c2, c3, c4, c5, c6], _ =>
    match xs, hxl with
    | [y0, y1, y2, y3, y4, y5, y6], _ =>
      have g0 := hf 0 _ rfl
      have g1 := hf 1 _ rfl
      have g2 := hf 2 _ rfl
      have g3 := hf 3 _ rfl
      have g4 := hf 4 _ rfl
      have g5 := hf 5 _ rfl
      have g6 := hf 6 _ rfl
      simp [k1, k2, k3, k4] at g0 g1 g2 g3 g4 g5 g6
      obtain ⟨i, e0, -, b0⟩ := DataW.trod_int Try.underlying2 g0
      obtain ⟨s, e1, -, b1⟩ := DataW.trod_string Try.underlying9 g1
      obtain ⟨t, e2, -⟩ := DataW.trod_int Try.underlying3 g2
      obtain ⟨z3, e3, -⟩ := DataW.trod_bool Try.underlying4 g3
      obtain ⟨z4, e4, -⟩ := DataW.trod_int Try.underlying3 g4
      obtain ⟨z5, e5, -⟩ := DataW.trod_bool Try.underlying4 g5
      obtain ⟨z6, e6, -⟩ := DataW.trod_bool Try.underlying4 g6
      simp at e0 e1 e2 e3 e4 e5 e6
      have hlen : s.data.toList.length = s.size := by rw [Array.length_toList]; rfl
      subst e0 e1 e2 e3 e4 e5 e6
      exact ⟨⟨i, s.data.toList, t, z3, z4, z5, z6⟩, rfl, bd_i64 b0, by simp only; rw [hlen]; simp only [maxLen] at b1; omega⟩
end Go.Proofs.Yticbhfmpnmolcaa
end

/- PullTells holds: for any attributes, facts, entity and pattern the call returns true, and the arguments read behind it as before. Condition: none. -/
section
set_option linter.unusedVariables false
set_option linter.unusedSimpArgs false
namespace Go.Proofs.Yticbhfmpnmolcaa.pullTells
open Go.ChangeShapes Go.WideShapes Go.ChangeAt Go.RowKit
open Go.ChangeMaps (open_string shut_string)
set_option linter.unusedVariables false
instance : Inhabited Attr := ⟨zeroA⟩

set_option maxRecDepth 100000 in
theorem contract (H : Type) (enc : TypeId × Value → H) (W : World) (base : Nat) (args : Array Value) (ds gs : List (DataW H)) (before : List MemPlace)
    (hval : ∀ (j : Nat) t v, Try.f3.params[j]? = some t → args[j]? = some v → Value.okWide Try.prog W .any base t v)
    (hW : DataW.Whole enc Try.prog Try.f3.params.toList Rows.pullTellsSpec.vars false W args.toList ds gs before)
    (hwt : (DataW.weightsEach Try.prog (Try.f3.params.toList ++ Rows.pullTellsSpec.plain.varTypes Try.prog) (ds ++ gs)).all (· ≤ reachBytes) = true) :
    Calls Try.prog 3 args W fun e W' => ∃ v, e = .returned v ∧ Rows.pullTellsSpec.post enc Try.prog Try.f3 false true false false W args v W' := by
  have hW' := hW
  obtain ⟨p, q, hA0, hV, rfl, hfz, hnd⟩ := hW
  have hA : DataW.TrodAll enc Try.prog W 0 (fun _ => true) true Try.f3.params.toList args.toList ds p := hA0
  rw [Try.params3] at hA hval
  have hAk := hA
  obtain ⟨v0, vs0, d0, ds0, p0, q0, hargs, rfl, rfl, h0, r0⟩ := trodAll_cons hA
  obtain ⟨v1, vs1, d1, ds1, p1, q1, rfl, rfl, rfl, h1, r1⟩ := trodAll_cons r0
  obtain ⟨v2, vs2, d2, ds2, p2, q2, rfl, rfl, rfl, h2, r2⟩ := trodAll_cons r1
  obtain ⟨v3, vs3, d3, ds3, p3, q3, rfl, rfl, rfl, h3, r3⟩ := trodAll_cons r2
  obtain ⟨rfl, rfl, rfl⟩ := trodAll_nil r3
  obtain rfl : args = #[v0, v1, v2, v3] := by cases args; simp_all
  obtain ⟨rfl, rfl⟩ := trodVars_none hV
  obtain ⟨a0, len0, cap0, rfl⟩ := okWide_slice Try.underlying22 (hval 0 22 v0 rfl rfl)
  obtain ⟨n0, h0⟩ := h0
  obtain ⟨x0, s0, o0⟩ := open_sl (α := Attr) (E := flat Attr.enc) (ok := Attr.okI) Try.underlying22 (size := 7) (by kernel_rfl) (by decide) el_attrI (by simpa [Value.cells] using h0)
  obtain ⟨a1, len1, cap1, rfl⟩ := okWide_slice Try.underlying23 (hval 1 23 v1 rfl rfl)
  obtain ⟨n1, h1⟩ := h1
  obtain ⟨x1, s1, o1⟩ := open_sl (α := Ft) (E := ftE) (ok := Ft.ok) Try.underlying23 (size := 6) (by kernel_rfl) (by decide) el_ft (by simpa [Value.cells] using h1)
  obtain ⟨x2, rfl, rfl, rfl, o2⟩ := open_int Try.underlying2 (hval 2 2 v2 rfl rfl) h2
  obtain ⟨a3, len3, cap3, rfl⟩ := okWide_slice Try.underlying24 (hval 3 24 v3 rfl rfl)
  obtain ⟨n3, h3⟩ := h3
  have hw3 : wOk 24 d3 := fun u hu => by
    have h9 := List.all_eq_true.1 hwt _ (DataW.weights_mem_each (j := 3) (t := 24) (d := d3) rfl rfl u hu)
    simpa using h9
  obtain ⟨x3, s3⟩ := open_its (SizeOf.sizeOf d3 + 1) n3 _ (d3, p3) (Nat.lt_succ_self _) (by simpa [Value.cells] using h3) hw3
  have hm : x1.length ≤ 2000000000000 := by
    obtain ⟨ao, cap, e, -⟩ := s1.form
    injection e with _ e _
    have h9 := sl_many (j := 1) (t := 23) (x := (d1, p1)) (bytes := 72) hwt rfl rfl Try.underlying23 (by kernel_rfl) (by simpa [Value.cells] using h1)
    rw [e] at h9
    omega
  clear hA0
  refine PullTells_at shape_any (SizeOf.sizeOf d3 + 1) x0 x1 x2 x3 _ _ _ W s0 s1 s3 hm (fun x hx => (o1 x hx).2.2.1.2.2) (fun a ha => (o0 a ha).2) (fun a ha => (o0 a ha).1) _ fun W' bel => ?_
  exact ⟨_, rfl, _, _, _, [], _, [], hW', trodAll_mk1 (shut_bool Try.underlying4 _), trodAll_below laidOut bel _ _ _ _ (by kernel_rfl) hAk, rfl, bel.frame _, fun h => by cases h⟩

set_option maxRecDepth 100000 in
theorem lifted (os : Os) (started : os.Started) (H : Type) (enc : TypeId × Value → H) :
    ReturnsInHanded {} Try.checked os 3 .any (Rows.pullTellsSpec.pre6 enc Try.prog Try.f3 Rows.pullTellsRow.domain false) (Rows.pullTellsSpec.post enc Try.prog Try.f3 false true false false) := by
  refine returnsInHanded_of_change_sized (C := Try.checked) own started (by kernel_rfl) Try.func3
    (ChangeSpec.witness6 (enc := enc) (C := Try.checked) false ⟨#[], #[.slice none 0 0, .slice none 0 0, .int .i64 0, .slice none 0 0], []⟩ 8 (by kernel_rfl) (by kernel_rfl) (by kernel_rfl) (by kernel_rfl)) ?_
  intro W base args ds gs before hval hW _ hwt _
  exact contract H enc W base args ds gs before hval hW hwt

theorem over : Rows.pullTellsRow.holds Try.pinned (OpenSpec.ofChange Rows.pullTellsSpec) :=
  OpenClaim.holds_of_wide 3 Try.f3 rfl rfl rfl rfl rfl rfl rfl ⟨rfl, rfl, rfl, rfl, rfl⟩ rfl rfl rfl rfl rfl (by kernel_rfl) Try.func3 (by kernel_rfl)
    (of_decide_eq_true (by kernel_rfl)) (by unfold Func.isWrapper; first | (rw [if_pos (by decide +kernel)]; kernel_rfl) | (rw [if_neg (by decide +kernel)]; exact ⟨rfl, rfl⟩))
    (fun os started H enc _ => lifted os started H enc)

theorem proved : Rows.PullTellsSaid := over
end Go.Proofs.Yticbhfmpnmolcaa.pullTells
end
