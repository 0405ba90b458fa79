/- The document's disk: Dirty, Write, Flush. (Printed by diskrf.py.) -/
import Derived.Test.YtfmpafheodpfoaaDiskRg
import Derived.Test.YtfmpafheodpfoaaDiskW
import Derived.Test.YtfmpafheodpfoaaDiskFl
namespace Go.Proofs.Ytfmpafheodpfoaa
open Go.RowKit
attribute [local go_sem ↓] Go.wp_at_zero Go.wp_at_succ
set_option linter.unusedVariables false
set_option linter.unusedSimpArgs false

theorem appG {w : World} {lo : Nat} {v : Value} {xs ys : List (List UInt8)} (h : Own strE 9 1 lo w v xs) {x : Value} (hs : Src Try.prog 1 29 x ys.length (ys.flatMap strE) w) (hb : xs.length + ys.length ≤ 100000000) (hlo : lo ≤ w.heap.size) :
    ∃ v' w', (Builtin.append_ #[29, 29] 29 #[v, x]).run Try.prog w = .ok v' w' ∧ Own strE 9 1 lo w' v' (xs ++ ys) ∧ Appended w v w' v' := by
  obtain ⟨i0, hi, hz0, hz1, hz2⟩ := info_parts infoStr
  exact Own.app h _ _ _ i0 _ 16 Try.underlying29 hi hz0 hz1 hz2 rfl hs (by omega) (by decide) hlo
theorem srcG {w : World} {lo : Nat} {v : Value} {l : List (List UInt8)} (h : Own strE 9 1 lo w v l) : Src Try.prog 1 29 v l.length (l.flatMap strE) w :=
  Src.ofSl (Sl.ofOwn (enc := strE) (fun _ => rfl) h) (fun _ => rfl) (fun x u hu => by
    simp only [strE, sV, List.mem_cons, List.not_mem_nil, or_false] at hu
    rw [hu]; rfl) Try.underlying29
theorem appG1 {w : World} {lo : Nat} {v : Value} {xs : List (List UInt8)} (h : Own strE 9 1 lo w v xs) {n : Nat} {s : List UInt8} (hc : CellsAt w n 0 [sV s]) (hb : xs.length + 1 ≤ 100000000) (hlo : lo ≤ w.heap.size) :
    ∃ v' w', (Builtin.append_ #[29, 29] 29 #[v, .slice (some ⟨n, 0, none⟩) 1 1]).run Try.prog w = .ok v' w' ∧ Own strE 9 1 lo w' v' (xs ++ [s]) ∧ Appended w v w' v' :=
  appG h (ys := [s]) (Src.ofSlice _ Try.underlying29 _ _ _ _ (by simp [strE]) (fun j u hu => by rw [Addr.add_lit]; exact hc j u (by simpa [strE] using hu)) (fun u hu => by
    simp only [List.flatMap_cons, List.flatMap_nil, strE, sV, List.append_nil, List.mem_cons, List.not_mem_nil, or_false] at hu
    rw [hu]; rfl)) (by simpa using hb) hlo
theorem Own.mono0 {α : Type} {enc : α → List Value} {e : TypeId} {size lo lo' : Nat} {w : World} {v : Value} {xs : List α} (h : Own enc e size lo w v xs) (hl : lo' ≤ lo) : Own enc e size lo' w v xs :=
  ⟨h.1, h.2.imp id fun ⟨g, cap, cur, h1, h2, h3⟩ => ⟨g, cap, cur, h1, Nat.le_trans hl h2, h3⟩⟩
theorem set_self {α : Type} (l : List α) (i : Nat) (a : α) : l.set i (l.getD i a) = l := by
  by_cases h : i < l.length
  · rw [List.getD, List.getElem?_eq_getElem h]
    simp
  · exact List.set_eq_of_length_le (by omega)

set_option maxRecDepth 100000 in
set_option maxHeartbeats 4000000 in
theorem DirtyR_any (S : Nat → Prop) (rb : Nat) (d : Dk) (w : World) (h : RfAt w S rb d) (hw : ∀ l ∈ d.writes, l.length ≤ 1000000) (R : Ending → World → Prop)
    (hR : ∀ w' v', Below w.heap.size w w' → OwnI w.heap.size w' v' (dirtyTo d d.safe.length) → R (.returned v') w') :
    Calls Try.prog 44 #[.pointer (some ⟨rb, 0, none⟩)] w R := by
  obtain ⟨lb, c, ws, h⟩ := h
  have HR := Lib.hid hR
  have H := Lib.hid h
  have hcap := h.cap
  clear hR h
  go_enter Try.func44, Try.ntmps44
  go_wp2_with fail
  go_loopw [3, 4] (fun t3 t4 wr => ∃ i : Nat, i ≤ d.safe.length ∧ t4 = .int .i64 (i : Int) ∧ Below w.heap.size w wr ∧ OwnI w.heap.size wr t3 (dirtyTo d i)) (fun _ t4 _ => d.safe.length - (intOf t4).toNat)
  case atStart => exact ⟨0, Nat.zero_le _, rfl, Below.refl _ _, Own.nil _ _ _ _ _⟩
  case round =>
    obtain ⟨i, hi1, rfl, hB, ho⟩ := hrel
    have HB := Lib.hid hB
    have HO := Lib.hid ho
    have Hr := Lib.hid (H.out.keep (S' := S) (fun k _ hk => hB.block k hk) (fun _ e => e))
    have c0 := Hr.out.hd.cells.c4.1
    have i0 : (0 : Int) ≤ (i : Int) := by omega
    have hwl := hB.size
    clear hB
    by_cases hil : i < d.safe.length
    · have il : (i : Int) < (d.safe.length : Int) := by omega
      obtain ⟨g, c1, x0, x1, x2, -, -, -, -, -, -⟩ := Hr.out.at i hil
      have hst : dirtyTo d (i + 1) = dirtyTo d i ++ if d.writes.getD i [] = [] then [] else [i] := rfl
      have hdl := dirtyTo_length d i
      obtain ⟨p3, c3, e3⟩ := Own.slice ho
      subst e3
      generalize dirtyTo d i = ac at *
      by_cases hz : d.writes.getD i [] = []
      · rw [if_pos hz, List.append_nil] at hst
        have HO2 : Hid (OwnI w.heap.size wr (.slice p3 ac.length c3) (dirtyTo d (i + 1))) := Lib.hid (by rw [hst]; exact HO.out)
        rw [hz, List.length_nil] at x0
        clear hz hst ho
        go_wp2_with fail
        go_roundw
        case rel => exact ⟨i + 1, by omega, by go_num, HB.out, HO2.out⟩
        case measure => first | (simp [intOf]; done) | (simp [intOf]; omega)
      · rw [if_neg hz] at hst
        have hp : 1 ≤ (d.writes.getD i []).length := by
          cases hh : d.writes.getD i [] with
          | nil => exact absurd hh hz
          | cons x r => simp
        have hm : (d.writes.getD i []).length ≤ 1000000 := by
          by_cases hnw : i < d.writes.length
          · exact hw _ (by simp [List.getD, List.getElem?_eq_getElem hnw])
          · simp [List.getD, List.getElem?_eq_none (Nat.not_lt.1 hnw)]
        generalize (d.writes.getD i []).length = m at *
        have m1 : (1 : Int) < ((m + 1 : Nat) : Int) := by omega
        obtain ⟨v', w', hrun, ho', ha'⟩ := appI1 HO.out i (n := wr.heap.size) rfl (by omega) hwl
        have hbl := ha'.below hwl (fun k hk => (Own.lt HO.out k hk).1)
        rw [← hst] at ho'
        have HO2 := Lib.hid ho'
        have HB2 := Lib.hid (HB.out.trans hbl)
        clear hz hst ho ha' hbl ho'
        go_wp2_with (at_builtin; refine AtApp.of ?_)
        refine AtApp.go hrun rfl rfl rfl rfl ?_
        clear hrun
        go_wp2_with fail
        go_roundw
        case rel => exact ⟨i + 1, by omega, by go_num, HB2.out, HO2.out⟩
        case measure => first | (simp [intOf]; done) | (simp [intOf]; omega)
    · have he : i = d.safe.length := by omega
      subst he
      have hr := HR.out wr _ HB.out ho
      clear ho
      go_wp2_with fail
      first | exact hr | exact fin hr rfl

set_option maxRecDepth 100000 in
set_option maxHeartbeats 4000000 in
theorem WriteR_any (S : Nat → Prop) (rb : Nat) (d : Dk) (i : Int) (b : List UInt8) (w : World) (h : RfAt w S rb d) (hS : ∀ k, S k → k < w.heap.size) (hf : d.fuse ≤ 9223372036854775807 ∧ -9223372036854775808 ≤ d.fuse) (hops : 0 ≤ d.ops ∧ d.ops < 1000000) (hcnt : ∀ l ∈ d.writes, l.length ≤ 1000000) (R : Ending → World → Prop)
    (hRe : upE d.safe.length d.down i ≠ 0 → R (.returned (.int .i64 (upE d.safe.length d.down i))) w)
    (hR2 : upE d.safe.length d.down i = 0 → b.length ≠ 128 → R (.returned (.int .i64 2)) w)
    (hR3 : upE d.safe.length d.down i = 0 → b.length = 128 → d.fuse = 0 → ∀ w', Only S w w' → RfAt w' S rb ⟨d.safe, d.writes, d.fuse, true, d.ops⟩ → R (.returned (.int .i64 210)) w')
    (hR4 : upE d.safe.length d.down i = 0 → b.length = 128 → d.fuse ≠ 0 → ∀ w', Only S w w' → RfAt w' (fun k => S k ∨ (w.heap.size ≤ k ∧ k < w'.heap.size)) rb ⟨d.safe, d.writes.set i.toNat (d.writes.getD i.toNat [] ++ [b]), fuse1 d.fuse, d.down, d.ops + 1⟩ → R (.returned (.int .i64 0)) w') :
    Calls Try.prog 39 #[.pointer (some ⟨rb, 0, none⟩), .int .i64 i, .string ⟨b.toArray⟩] w R := by
  obtain ⟨lb, c, ws, h⟩ := h
  have H := Lib.hid h
  obtain ⟨c0, -, c2, -⟩ := h.hd.cells.c4
  have hcap := h.cap
  have HS := Lib.hid hS
  clear h hS
  go_enter Try.func39, Try.ntmps39
  by_cases hup : upE d.safe.length d.down i ≠ 0
  · have hr := hRe hup
    clear hRe hR2 hR3 hR4
    cases hdn : d.down
    · rw [hdn] at c2 hr hup
      by_cases h0 : i < 0
      · rw [show upE d.safe.length false i = 211 by simp [upE, h0]] at hr
        clear hup
        go_wp2_with fail
        all_goals first | exact hr | exact fin hr rfl
      · by_cases h1 : (d.safe.length : Int) ≤ i
        · rw [show upE d.safe.length false i = 211 by simp [upE, h1]] at hr
          clear hup
          go_wp2_with fail
          all_goals first | exact hr | exact fin hr rfl
        · exact absurd (by simp [upE]; omega) hup
    · rw [hdn] at c2 hr
      rw [show upE d.safe.length true i = 210 by simp [upE]] at hr
      clear hup
      go_wp2_with fail
      all_goals first | exact hr | exact fin hr rfl
  · have hz : upE d.safe.length d.down i = 0 := by simpa using hup
    have hdn : d.down = false := by
      cases hh : d.down
      · rfl
      · rw [hh] at hz; simp [upE] at hz
    have hi0 : 0 ≤ i ∧ i < d.safe.length := by
      rw [hdn] at hz
      unfold upE at hz
      rw [if_neg (by decide)] at hz
      split at hz
      · exact absurd hz (by decide)
      · omega
    obtain ⟨n, rfl⟩ := Int.eq_ofNat_of_zero_le hi0.1
    have hn : n < d.safe.length := by omega
    have n0 : (0 : Int) ≤ (n : Int) := by omega
    have nl : (n : Int) < (d.safe.length : Int) := by omega
    rw [hdn] at c2
    rw [Int.toNat_natCast] at hR4
    by_cases hl : b.length = 128
    · have HR3 := Lib.hid (hR3 hz hl)
      have HR4 := Lib.hid (hR4 hz hl)
      have Hdn := Lib.hid hdn
      clear hRe hR2 hR3 hR4 hup hz hi0 hdn
      go_wp2_with fail
      refine countsR_any rb _ d.fuse d.ops d.down w H.out.hd hf hops _ (fun hf0 w2 hO hsz hb2 => ?_) (fun hf0 w2 hO hsz hb2 => ?_)
      · have h2 := H.out.head hO d.fuse d.ops true hb2
        have hr := HR3.out hf0 w2 (hO.mono (fun k _ e => e ▸ H.out.sr)) ⟨lb, c, ws, h2⟩
        clear hO hsz hb2 h2
        go_wp2_with fail
        all_goals first | exact hr | exact fin hr rfl
      · have h2 := H.out.head hO (fuse1 d.fuse) (d.ops + 1) d.down hb2
        have H2 := Lib.hid h2
        have HO := Lib.hid hO
        have Hsz := Lib.hid hsz
        have Hf0 := Lib.hid hf0
        have c0' := hb2.cells.c4.1
        obtain ⟨g, c1, x0, x1, x2, hSg, hgr, hgl, hg2, hog, -⟩ := h2.at n hn
        simp only at x0 x1 hog
        have hm : (d.writes.getD n []).length ≤ 1000000 := by
          by_cases hnw : n < d.writes.length
          · exact hcnt _ (by simp [List.getD, List.getElem?_eq_getElem hnw])
          · simp [List.getD, List.getElem?_eq_none (Nat.not_lt.1 hnw)]
        obtain ⟨v1, w3, hrun3, ho3, ha3⟩ := appG (w := w2) (lo := w2.heap.size) (Own.nil strE 9 1 _ _) (srcG hog) (by simp only [List.length_nil, List.length_cons]; omega) (Nat.le_refl _)
        rw [List.nil_append] at ho3
        have hB3 : Below w2.heap.size w2 w3 := ha3.below (Nat.le_refl _) (fun k hk => by cases hk)
        have hs3 := hB3.size
        have h3 := h2.keep (S' := S) (fun k hk _ => hB3.block k (by have := HS.out k hk; omega)) (fun _ e => e)
        have Hhd3 := Lib.hid h3.hd
        obtain ⟨v2, w4, hrun4, ho4, ha4⟩ := appG1 (Own.kept ho3 ((Below.drew (Below.refl _ _)).alloc (Nat.le_refl _) (.cells #[sV b] 9))) (CellsAt.newAt w3.drew [sV b] 9 (n := w3.heap.size) rfl) (by simp only [List.length_cons]; omega) (by simp; omega)
        obtain ⟨p2, n2, e2, ev⟩ : ∃ p n c, v2 = .slice p n c := by obtain ⟨p, c, e⟩ := Own.slice ho4; exact ⟨p, _, c, e⟩
        subst ev
        have hl3 := Own.lt ho3
        have hB4 : Below w2.heap.size w3 w4 := (((Below.drew (Below.refl _ _)).alloc hs3 (.cells #[sV b] 9))).trans (ha4.below (by simp; omega) (fun k hk => (hl3 k hk).1))
        have hlb : lb < w2.heap.size := h2.lt.2
        have hrb : rb < w2.heap.size := h2.lt.1
        have Hrl3 : Hid (¬ (rb = lb ∨ w2.heap.size ≤ rb)) := Lib.hid (fun e => e.elim H.out.rl (fun e => by omega))
        have HS4 : Hid (Only (fun k => k = lb ∨ w2.heap.size ≤ k) w3 w4) := Lib.hid ⟨hB4.os, hB4.tape, hB4.output, Nat.le_trans (by simp) ha4.grown.size, fun k _ hn => hB4.block k (by omega)⟩
        have hB24 := hB3.trans hB4
        have hn4 : n < ws.length := by rw [H.out.lw]; exact hn
        have hfin := (H2.out.setRow n hn4 hB24 (Own.mono0 ho4 (Nat.zero_le _)) (fun q e => (Own.lt ho4 q e).1))
        have Hfz : Hid (w4.frozen? ⟨lb, n, none⟩ = false) := Lib.hid (by
          have hk := Own.kept h2.hl hB24
          obtain ⟨g', cap', e', -, -, -, -, -, hz⟩ := Own.form hk (fun e => by rw [e] at hn4; exact absurd hn4 (Nat.not_lt_zero _))
          injection e' with e'
          injection e' with e'
          injection e' with e'
          subst e'
          exact hz n)
        have Hcl : Hid (w4.cell? ⟨lb, n, none⟩ = some (.slice (some ⟨g, 0, none⟩) ((d.writes.getD n []).length + 1) c1)) := Lib.hid ((World.cell?_of_block (hB24.block lb hlb)).trans x0)
        have hO4 : Only S w (w4.setCell ⟨lb, n, none⟩ (.slice p2 n2 e2)) := by
          refine ⟨hB24.os.trans HO.out.os, hB24.tape.trans HO.out.tape, hB24.output.trans HO.out.output, by simp [World.setCell]; have := HO.out.size; have := hB24.size; omega, fun k hk hnS => ?_⟩
          exact (Below.heap_setCell _ _ _ _ (fun e => hnS (by rw [e]; exact H.out.sl))).trans ((hB24.block k (by rw [Hsz.out]; exact hk)).trans (HO.out.block k hk (fun e => hnS (e ▸ H.out.sr))))
        simp only [set_self] at hfin
        have hr := HR4.out Hf0.out _ hO4 ⟨lb, c, _, hfin.keep (S' := fun k => S k ∨ (w.heap.size ≤ k ∧ k < (w4.setCell ⟨lb, n, none⟩ (.slice p2 n2 e2)).heap.size)) (fun _ _ _ => rfl) (fun k e => e.imp id (fun e => ⟨by rw [← Hsz.out]; exact e.1, by simpa [World.setCell] using e.2⟩))⟩
        have Hr := Lib.hid hr
        clear hO hsz hb2 h2 ho3 ha3 hB3 h3 ho4 ha4 hl3 hB4 hB24 hfin hO4 hf0 hog hr
        go_wp2_with (at_builtin; refine AtApp.of ?_)
        refine AtApp.go hrun3 rfl rfl rfl rfl ?_
        clear hrun3
        go_wp2_with fail
        refine wp_region_held_drew (S := fun w' => Only (fun k => k = lb ∨ w2.heap.size ≤ k) w3 w') (by kernel_rfl) (Only.drew _) (fun hHeld => ?_)
        refine wpAnyH_take (i := 0) (v := .pointer (some ⟨rb, 0, none⟩)) rfl (by kernel_rfl) (by kernel_rfl) (by kernel_rfl) (fun _ _ _ h => h) (Or.inl ⟨by rfl, ?_⟩) hHeld ?_
        · intro w' hSw; go_simp
        try simp only [Act.put, List.getElem_toArray, List.getElem_cons_succ, List.getElem_cons_zero, List.setIfInBounds_toArray, List.set_cons_zero, List.set_cons_succ]
        refine wpAnyH_take (i := 1) (v := .pointer (some ⟨rb, 0, none⟩)) rfl (by kernel_rfl) (by kernel_rfl) (by kernel_rfl) (fun _ _ _ h => h) (Or.inl ⟨by rfl, ?_⟩) hHeld ?_
        · intro w' hSw; go_simp
        try simp only [Act.put, List.getElem_toArray, List.getElem_cons_succ, List.getElem_cons_zero, List.setIfInBounds_toArray, List.set_cons_zero, List.set_cons_succ]
        refine wpAnyH_take (i := 2) (v := .pointer (some ⟨rb, 0, none⟩)) rfl (by kernel_rfl) (by kernel_rfl) (by kernel_rfl) (fun _ _ _ h => h) (Or.inl ⟨by rfl, ?_⟩) hHeld ?_
        · intro w' hSw; go_simp
        try simp only [Act.put, List.getElem_toArray, List.getElem_cons_succ, List.getElem_cons_zero, List.setIfInBounds_toArray, List.set_cons_zero, List.set_cons_succ]
        refine wpAnyH_take (i := 3) (v := .slice (some ⟨lb, 0, none⟩) d.safe.length c) rfl (by kernel_rfl) (by kernel_rfl) (by kernel_rfl) (fun _ _ _ h => h) (Or.inl ⟨by rfl, ?_⟩) hHeld ?_
        · intro w' hSw; have kx := (hSw.blk Hhd3.out Hrl3.out).cells.c4.1; go_simp
        try simp only [Act.put, List.getElem_toArray, List.getElem_cons_succ, List.getElem_cons_zero, List.setIfInBounds_toArray, List.set_cons_zero, List.set_cons_succ]
        refine wpAnyH_take (i := 4) (v := .int .i64 ((n : Int))) rfl (by kernel_rfl) (by kernel_rfl) (by kernel_rfl) (fun _ _ _ h => h) (Or.inl ⟨by rfl, ?_⟩) hHeld ?_
        · intro w' hSw; go_simp
        try simp only [Act.put, List.getElem_toArray, List.getElem_cons_succ, List.getElem_cons_zero, List.setIfInBounds_toArray, List.set_cons_zero, List.set_cons_succ]
        refine wpAnyH_take (i := 5) (v := v1) rfl (by kernel_rfl) (by kernel_rfl) (by kernel_rfl) (fun _ _ _ h => h) (Or.inl ⟨by rfl, ?_⟩) hHeld ?_
        · intro w' hSw; go_simp
        try simp only [Act.put, List.getElem_toArray, List.getElem_cons_succ, List.getElem_cons_zero, List.setIfInBounds_toArray, List.set_cons_zero, List.set_cons_succ]
        refine wpAnyH_take (i := 6) (v := .string ⟨b.toArray⟩) rfl (by kernel_rfl) (by kernel_rfl) (by kernel_rfl) (fun _ _ _ h => h) (Or.inl ⟨by rfl, ?_⟩) hHeld ?_
        · intro w' hSw; go_simp
        try simp only [Act.put, List.getElem_toArray, List.getElem_cons_succ, List.getElem_cons_zero, List.setIfInBounds_toArray, List.set_cons_zero, List.set_cons_succ]
        refine wpAnyH_ready (rs := [7]) (by kernel_rfl) (by simp) ?_
        refine allVal (v := .slice (some ⟨w3.heap.size, 0, none⟩) 1 1) (w' := w3.drew.alloc (.cells #[sV b] 9)) rfl (by kernel_rfl) ?_ ((Only.drew _).trans (Only.alloc _ _)) ?_ AllReadyH.nil
        · go_simp; rfl
        try simp only [Act.put, List.getElem_toArray, List.getElem_cons_succ, List.getElem_cons_zero, List.setIfInBounds_toArray, List.set_cons_zero, List.set_cons_succ]
        refine wpAnyH_ready (rs := [8]) (by kernel_rfl) (by simp) ?_
        refine allVal (v := .slice p2 n2 e2) (w' := w4) rfl (by kernel_rfl) ?_ HS4.out ?_ AllReadyH.nil
        · exact execApp hrun4 rfl rfl rfl
        try simp only [Act.put, List.getElem_toArray, List.getElem_cons_succ, List.getElem_cons_zero, List.setIfInBounds_toArray, List.set_cons_zero, List.set_cons_succ]
        clear hHeld
        have hHeld := HS4.out
        refine wpAnyH_take (i := 9) (v := .pointer (some ⟨lb, n, none⟩)) rfl (by kernel_rfl) (by kernel_rfl) (by kernel_rfl) (fun _ _ _ h => h) (Or.inl ⟨by rfl, ?_⟩) hHeld ?_
        · intro w' hSw; go_simp
        try simp only [Act.put, List.getElem_toArray, List.getElem_cons_succ, List.getElem_cons_zero, List.setIfInBounds_toArray, List.set_cons_zero, List.set_cons_succ]
        refine wpAnyH_ready (rs := [10]) (by kernel_rfl) (by simp) ?_
        refine allSkip (w' := w4.setCell ⟨lb, n, none⟩ (.slice p2 n2 e2)) rfl (by kernel_rfl) ?_ (hHeld.trans (Only.setCell _ (p := ⟨lb, n, none⟩) (.inl rfl) _)) ?_ AllReadyH.nil
        · have kz := Hfz.out
          have ky := Hcl.out
          go_simp
        try simp only [Act.put, List.getElem_toArray, List.getElem_cons_succ, List.getElem_cons_zero, List.setIfInBounds_toArray, List.set_cons_zero, List.set_cons_succ]
        refine wpAnyH_done (by kernel_rfl) ?_ _
        clear hHeld
        have hr := Hr.out
        go_wp2_with fail
        first | exact hr | exact fin hr rfl
    · have hr := hR2 hz hl
      clear hRe hR2 hR3 hR4
      go_wp2_with fail
      all_goals first | exact hr | exact fin hr rfl

theorem ownG1 (w : World) (s : List UInt8) {n : Nat} (hn : n = w.heap.size) (lo : Nat) (hlo : lo ≤ w.heap.size) : Own strE 9 1 lo (w.alloc (.cells #[sV s] 9)) (.slice (some ⟨n, 0, none⟩) 1 1) [s] := by
  subst hn
  exact World.ownsRow_lit (base := lo) (e := 9) (size := 1) w #[sV s] 1 hlo (by simp [maxLen]) rfl

set_option maxRecDepth 100000 in
set_option maxHeartbeats 4000000 in
theorem FlushR_any (S : Nat → Prop) (rb : Nat) (d : Dk) (w : World) (h : RfAt w S rb d) (hS : ∀ k, S k → k < w.heap.size) (hf : d.fuse ≤ 9223372036854775807 ∧ -9223372036854775808 ≤ d.fuse) (hops : 0 ≤ d.ops ∧ d.ops < 1000000) (hcnt : ∀ l ∈ d.writes, l.length ≤ 1000000) (R : Ending → World → Prop)
    (hRd : d.down = true → R (.returned (.int .i64 210)) w)
    (hR3 : d.down = false → d.fuse = 0 → ∀ w', Only S w w' → RfAt w' S rb ⟨d.safe, d.writes, d.fuse, true, d.ops⟩ → R (.returned (.int .i64 210)) w')
    (hR4 : d.down = false → d.fuse ≠ 0 → ∀ w', Only S w w' → RfAt w' (fun k => S k ∨ (w.heap.size ≤ k ∧ k < w'.heap.size)) rb ((⟨d.safe, d.writes, fuse1 d.fuse, d.down, d.ops + 1⟩ : Dk).upTo d.last d.safe.length) → R (.returned (.int .i64 0)) w') :
    Calls Try.prog 40 #[.pointer (some ⟨rb, 0, none⟩)] w R := by
  obtain ⟨lb, c, ws, h⟩ := h
  have H := Lib.hid h
  obtain ⟨c0, -, c2, -⟩ := h.hd.cells.c4
  have hcap := h.cap
  have HS := Lib.hid hS
  have hlrw := h.lr
  clear h hS
  go_enter Try.func40, Try.ntmps40
  cases hdn : d.down
  · have HR3 := Lib.hid (hR3 hdn)
    have HR4 := Lib.hid (hR4 hdn)
    rw [hdn] at c2
    have Hdn := Lib.hid hdn
    clear hRd hR3 hR4 hdn
    go_wp2_with fail
    refine countsR_any rb _ d.fuse d.ops d.down w H.out.hd hf hops _ (fun hf0 w2 hO hsz hb2 => ?_) (fun hf0 w2 hO hsz hb2 => ?_)
    · have h2 := H.out.head hO d.fuse d.ops true hb2
      have hr := HR3.out hf0 w2 (hO.mono (fun k _ e => e ▸ H.out.sr)) ⟨lb, c, ws, h2⟩
      clear hO hsz hb2 h2
      go_wp2_with fail
      all_goals first | exact hr | exact fin hr rfl
    · have h2 := H.out.head hO (fuse1 d.fuse) (d.ops + 1) d.down hb2
      have HO := Lib.hid (hO.mono (A' := S) (fun k _ e => e ▸ H.out.sr))
      have Hsz := Lib.hid hsz
      have Hf0 := Lib.hid hf0
      obtain ⟨D, eD⟩ : ∃ D : Dk, D = ⟨d.safe, d.writes, fuse1 d.fuse, d.down, d.ops + 1⟩ := ⟨_, rfl⟩
      rw [← eD] at h2
      have HR4' := Lib.hid (HR4.out Hf0.out)
      rw [← eD] at HR4'
      have hDs : D.safe = d.safe := by rw [eD]
      have hDw : D.writes = d.writes := by rw [eD]
      have hDl : D.writes.length = D.safe.length := by rw [hDs, hDw]; exact hlrw
      have hDlast : ∀ i, D.last i = d.last i := fun i => by rw [Dk.last, Dk.last, hDs, hDw]
      have h20 : RfIn w2 S rb lb c ws (D.upTo d.last 0) := by rw [Dk.upTo_zero D d.last hDl]; exact h2
      have H20 := Lib.hid h20
      have HDs := Lib.hid hDs
      have HDw := Lib.hid hDw
      have HDl := Lib.hid hDlast
      clear hO hsz hb2 h2 hf0 eD hDs hDw hDl hDlast h20 HR4 hlrw
      go_wp2_with fail
      go_loopw [4] (fun t4 wr => ∃ (i : Nat) (ws' : List Value), i ≤ d.safe.length ∧ t4 = .int .i64 (i : Int) ∧ Only S w2 wr ∧ RfIn wr (fun k => S k ∨ (w2.heap.size ≤ k ∧ k < wr.heap.size)) rb lb c ws' (D.upTo d.last i)) (fun t4 _ => d.safe.length - (intOf t4).toNat)
      case atStart => exact ⟨0, ws, Nat.zero_le _, rfl, Only.refl _ _, H20.out.keep (fun _ _ _ => rfl) (fun _ e => .inl e)⟩
      case round =>
        obtain ⟨i, ws', hi1, rfl, hOr, hr⟩ := hrel
        have HOr := Lib.hid hOr
        have Hr := Lib.hid hr
        have hsl : (D.upTo d.last i).safe.length = d.safe.length := by rw [Dk.upTo_len, HDs.out]
        have Hsl := Lib.hid hsl
        have Hhd := Lib.hid (show Blk wr rb [.slice (some ⟨lb, 0, none⟩) d.safe.length c, .int .i64 (D.upTo d.last i).fuse, .bool (D.upTo d.last i).down, .int .i64 (D.upTo d.last i).ops] 49 by have := hr.hd; rw [hsl] at this; exact this)
        have c0 := Hhd.out.cells.c4.1
        have i0 : (0 : Int) ≤ (i : Int) := by omega
        clear hOr hr
        by_cases hil : i < d.safe.length
        · have il : (i : Int) < (d.safe.length : Int) := by omega
          obtain ⟨g, c1, x0, x1, x2, hSg, hgr, hgl, hg2, hog, hcs⟩ := Hr.out.at i (by rw [hsl]; exact hil)
          have hwm : (D.upTo d.last i).writes.getD i [] = d.writes.getD i [] := by
            rcases D.upTo_w d.last i with e | e
            · rw [e, HDw.out]
            · rw [HDs.out] at e; omega
          have y0 := hcs ((D.upTo d.last i).writes.getD i []).length (by simp)
          rw [last_at, Dk.upTo_last _ _ _ (by rw [HDs.out]; exact hil), HDl.out] at y0
          rw [hwm] at x0 x1 y0
          have hm : (d.writes.getD i []).length ≤ 1000000 := by
            by_cases hnw : i < d.writes.length
            · exact hcnt _ (by simp [List.getD, List.getElem?_eq_getElem hnw])
            · simp [List.getD, List.getElem?_eq_none (Nat.not_lt.1 hnw)]
          have hlb := Hr.out.lt.2
          have Hfw : Hid (wr.frozen? ⟨lb, i, none⟩ = false) := Lib.hid (by
            have hn5 : i < ws'.length := by rw [Hr.out.lw, hsl]; exact hil
            obtain ⟨g', cap', e', -, -, -, -, -, hz⟩ := Own.form Hr.out.hl (fun e => by rw [e] at hn5; exact absurd hn5 (Nat.not_lt_zero _))
            injection e' with e'
            injection e' with e'
            injection e' with e'
            subst e'
            exact hz i)
          have hstep := Hr.out.setRow i (by rw [Hr.out.lw, hsl]; exact hil) (wx := wr.drew.alloc (.cells #[sV (d.last i)] 9)) ((Below.drew (Below.refl _ _)).alloc (Nat.le_refl _) _) (v' := .slice (some ⟨wr.heap.size, 0, none⟩) 1 1) (s' := d.last i) (l' := []) (ownG1 wr.drew (d.last i) rfl 0 (Nat.zero_le _)) (fun q e => by
            have : some wr.heap.size = some q := e
            injection this with this; omega)
          have hst2 : (⟨(D.upTo d.last i).safe.set i (d.last i), (D.upTo d.last i).writes.set i [], (D.upTo d.last i).fuse, (D.upTo d.last i).down, (D.upTo d.last i).ops⟩ : Dk) = D.upTo d.last (i + 1) := (Dk.upTo_step D d.last i).symm
          rw [hst2] at hstep
          have hn4 : i < ws'.length := by rw [Hr.out.lw, hsl]; exact hil
          have Hfz : Hid ((wr.drew.alloc (.cells #[sV (d.last i)] 9)).frozen? ⟨lb, i, none⟩ = false) := Lib.hid (by
            have hk := Own.kept Hr.out.hl (show Below wr.heap.size wr (wr.drew.alloc (.cells #[sV (d.last i)] 9)) from (Below.drew (Below.refl _ _)).alloc (Nat.le_refl _) _)
            obtain ⟨g', cap', e', -, -, -, -, -, hz⟩ := Own.form hk (fun e => by rw [e] at hn4; exact absurd hn4 (Nat.not_lt_zero _))
            injection e' with e'
            injection e' with e'
            injection e' with e'
            subst e'
            exact hz i)
          have Hcl : Hid ((wr.drew.alloc (.cells #[sV (d.last i)] 9)).cell? ⟨lb, i, none⟩ = some (.slice (some ⟨g, 0, none⟩) ((d.writes.getD i []).length + 1) c1)) := Lib.hid ((World.cell?_of_block (Below.heap_alloc _ _ _ hlb)).trans x0)
          have Hst := Lib.hid hstep
          have Hrl : Hid (¬ rb = lb) := Lib.hid H.out.rl
          have Hgl := Lib.hid hgl
          have hsv : sV (d.last i) = .string ⟨(d.last i).toArray⟩ := rfl
          rw [hsv] at y0
          generalize (d.writes.getD i []).length = m at *
          generalize d.last i = s at *
          have m0 : (0 : Int) ≤ (m : Int) := by omega
          have ml : (m : Int) < ((m + 1 : Nat) : Int) := by omega
          have msw : IntKind.i64.wrap ((m : Nat) : Int) = (m : Int) := by rw [IntKind.wrap_i64]; omega
          clear hstep hst2 hwm hog hcs hSg hsv
          go_wp2_with fail
          refine wp_region_held_drew (S := fun w' => Only (· = lb) wr w') (by kernel_rfl) (Only.drew _) (fun hHeld => ?_)
          refine wpAnyH_take (i := 0) (v := .pointer (some ⟨rb, 0, none⟩)) rfl (by kernel_rfl) (by kernel_rfl) (by kernel_rfl) (fun _ _ _ h => h) (Or.inl ⟨by rfl, ?_⟩) hHeld ?_
          · intro w' hSw; go_simp
          try simp only [Act.put, List.getElem_toArray, List.getElem_cons_succ, List.getElem_cons_zero, List.setIfInBounds_toArray, List.set_cons_zero, List.set_cons_succ]
          refine wpAnyH_take (i := 1) (v := .pointer (some ⟨rb, 0, none⟩)) rfl (by kernel_rfl) (by kernel_rfl) (by kernel_rfl) (fun _ _ _ h => h) (Or.inl ⟨by rfl, ?_⟩) hHeld ?_
          · intro w' hSw; go_simp
          try simp only [Act.put, List.getElem_toArray, List.getElem_cons_succ, List.getElem_cons_zero, List.setIfInBounds_toArray, List.set_cons_zero, List.set_cons_succ]
          refine wpAnyH_take (i := 2) (v := .pointer (some ⟨rb, 0, none⟩)) rfl (by kernel_rfl) (by kernel_rfl) (by kernel_rfl) (fun _ _ _ h => h) (Or.inl ⟨by rfl, ?_⟩) hHeld ?_
          · intro w' hSw; go_simp
          try simp only [Act.put, List.getElem_toArray, List.getElem_cons_succ, List.getElem_cons_zero, List.setIfInBounds_toArray, List.set_cons_zero, List.set_cons_succ]
          refine wpAnyH_take (i := 3) (v := .slice (some ⟨lb, 0, none⟩) d.safe.length c) rfl (by kernel_rfl) (by kernel_rfl) (by kernel_rfl) (fun _ _ _ h => h) (Or.inl ⟨by rfl, ?_⟩) hHeld ?_
          · intro w' hSw; have kx := (hSw.blk Hhd.out Hrl.out).cells.c4.1; go_simp
          try simp only [Act.put, List.getElem_toArray, List.getElem_cons_succ, List.getElem_cons_zero, List.setIfInBounds_toArray, List.set_cons_zero, List.set_cons_succ]
          refine wpAnyH_take (i := 4) (v := .int .i64 ((i : Int))) rfl (by kernel_rfl) (by kernel_rfl) (by kernel_rfl) (fun _ _ _ h => h) (Or.inl ⟨by rfl, ?_⟩) hHeld ?_
          · intro w' hSw; go_simp
          try simp only [Act.put, List.getElem_toArray, List.getElem_cons_succ, List.getElem_cons_zero, List.setIfInBounds_toArray, List.set_cons_zero, List.set_cons_succ]
          refine wpAnyH_take (i := 5) (v := .pointer (some ⟨rb, 0, none⟩)) rfl (by kernel_rfl) (by kernel_rfl) (by kernel_rfl) (fun _ _ _ h => h) (Or.inl ⟨by rfl, ?_⟩) hHeld ?_
          · intro w' hSw; go_simp
          try simp only [Act.put, List.getElem_toArray, List.getElem_cons_succ, List.getElem_cons_zero, List.setIfInBounds_toArray, List.set_cons_zero, List.set_cons_succ]
          refine wpAnyH_take (i := 6) (v := .pointer (some ⟨rb, 0, none⟩)) rfl (by kernel_rfl) (by kernel_rfl) (by kernel_rfl) (fun _ _ _ h => h) (Or.inl ⟨by rfl, ?_⟩) hHeld ?_
          · intro w' hSw; go_simp
          try simp only [Act.put, List.getElem_toArray, List.getElem_cons_succ, List.getElem_cons_zero, List.setIfInBounds_toArray, List.set_cons_zero, List.set_cons_succ]
          refine wpAnyH_take (i := 7) (v := .pointer (some ⟨rb, 0, none⟩)) rfl (by kernel_rfl) (by kernel_rfl) (by kernel_rfl) (fun _ _ _ h => h) (Or.inl ⟨by rfl, ?_⟩) hHeld ?_
          · intro w' hSw; go_simp
          try simp only [Act.put, List.getElem_toArray, List.getElem_cons_succ, List.getElem_cons_zero, List.setIfInBounds_toArray, List.set_cons_zero, List.set_cons_succ]
          refine wpAnyH_take (i := 8) (v := .slice (some ⟨lb, 0, none⟩) d.safe.length c) rfl (by kernel_rfl) (by kernel_rfl) (by kernel_rfl) (fun _ _ _ h => h) (Or.inl ⟨by rfl, ?_⟩) hHeld ?_
          · intro w' hSw; have kx := (hSw.blk Hhd.out Hrl.out).cells.c4.1; go_simp
          try simp only [Act.put, List.getElem_toArray, List.getElem_cons_succ, List.getElem_cons_zero, List.setIfInBounds_toArray, List.set_cons_zero, List.set_cons_succ]
          refine wpAnyH_take (i := 9) (v := .int .i64 ((i : Int))) rfl (by kernel_rfl) (by kernel_rfl) (by kernel_rfl) (fun _ _ _ h => h) (Or.inl ⟨by rfl, ?_⟩) hHeld ?_
          · intro w' hSw; go_simp
          try simp only [Act.put, List.getElem_toArray, List.getElem_cons_succ, List.getElem_cons_zero, List.setIfInBounds_toArray, List.set_cons_zero, List.set_cons_succ]
          refine wpAnyH_take (i := 10) (v := .pointer (some ⟨lb, i, none⟩)) rfl (by kernel_rfl) (by kernel_rfl) (by kernel_rfl) (fun _ _ _ h => h) (Or.inl ⟨by rfl, ?_⟩) hHeld ?_
          · intro w' hSw; go_simp
          try simp only [Act.put, List.getElem_toArray, List.getElem_cons_succ, List.getElem_cons_zero, List.setIfInBounds_toArray, List.set_cons_zero, List.set_cons_succ]
          refine wpAnyH_take (i := 12) (v := .int .i64 (((m + 1 : Nat) : Int))) rfl (by kernel_rfl) (by kernel_rfl) (by kernel_rfl) (fun _ _ _ h => h) (Or.inl ⟨by rfl, ?_⟩) hHeld ?_
          · intro w' hSw; go_simp
          try simp only [Act.put, List.getElem_toArray, List.getElem_cons_succ, List.getElem_cons_zero, List.setIfInBounds_toArray, List.set_cons_zero, List.set_cons_succ]
          refine wpAnyH_take (i := 13) (v := .int .i64 ((m : Int))) rfl (by kernel_rfl) (by kernel_rfl) (by kernel_rfl) (fun _ _ _ h => h) (Or.inl ⟨by rfl, ?_⟩) hHeld ?_
          · intro w' hSw; go_simp
          try simp only [Act.put, List.getElem_toArray, List.getElem_cons_succ, List.getElem_cons_zero, List.setIfInBounds_toArray, List.set_cons_zero, List.set_cons_succ]
          refine wpAnyH_ready (rs := [11]) (by kernel_rfl) (by simp) ?_
          refine allVal (v := .slice (some ⟨g, 0, none⟩) (m + 1) c1) (w' := wr.drew) rfl (by kernel_rfl) ?_ hHeld ?_ AllReadyH.nil
          · go_simp
          try simp only [Act.put, List.getElem_toArray, List.getElem_cons_succ, List.getElem_cons_zero, List.setIfInBounds_toArray, List.set_cons_zero, List.set_cons_succ]
          refine wpAnyH_take (i := 14) (v := .pointer (some ⟨g, m, none⟩)) rfl (by kernel_rfl) (by kernel_rfl) (by kernel_rfl) (fun _ _ _ h => h) (Or.inl ⟨by rfl, ?_⟩) hHeld ?_
          · intro w' hSw; go_simp <;> (intro hx; exact absurd hx (by omega))
          try simp only [Act.put, List.getElem_toArray, List.getElem_cons_succ, List.getElem_cons_zero, List.setIfInBounds_toArray, List.set_cons_zero, List.set_cons_succ]
          refine wpAnyH_take (i := 15) (v := .string ⟨s.toArray⟩) rfl (by kernel_rfl) (by kernel_rfl) (by kernel_rfl) (fun _ _ _ h => h) (Or.inl ⟨by rfl, ?_⟩) hHeld ?_
          · intro w' hSw; have kx := (World.cell?_of_block (hSw.block g hg2 Hgl.out)).trans y0; go_simp
          try simp only [Act.put, List.getElem_toArray, List.getElem_cons_succ, List.getElem_cons_zero, List.setIfInBounds_toArray, List.set_cons_zero, List.set_cons_succ]
          refine wpAnyH_ready (rs := [16]) (by kernel_rfl) (by simp) ?_
          refine allVal (v := .slice (some ⟨wr.heap.size, 0, none⟩) 1 1) (w' := wr.drew.alloc (.cells #[sV s] 9)) rfl (by kernel_rfl) ?_ ((Only.drew _).trans (Only.alloc _ _)) ?_ AllReadyH.nil
          · go_simp; rfl
          replace hHeld : Only (· = lb) wr (wr.drew.alloc (.cells #[sV s] 9)) := (Only.drew _).trans (Only.alloc _ _)
          try simp only [Act.put, List.getElem_toArray, List.getElem_cons_succ, List.getElem_cons_zero, List.setIfInBounds_toArray, List.set_cons_zero, List.set_cons_succ]
          refine wpAnyH_take (i := 17) (v := .pointer (some ⟨lb, i, none⟩)) rfl (by kernel_rfl) (by kernel_rfl) (by kernel_rfl) (fun _ _ _ h => h) (Or.inl ⟨by rfl, ?_⟩) hHeld ?_
          · intro w' hSw; go_simp
          try simp only [Act.put, List.getElem_toArray, List.getElem_cons_succ, List.getElem_cons_zero, List.setIfInBounds_toArray, List.set_cons_zero, List.set_cons_succ]
          refine wpAnyH_ready (rs := [18]) (by kernel_rfl) (by simp) ?_
          refine allSkip (w' := (wr.drew.alloc (.cells #[sV s] 9)).setCell ⟨lb, i, none⟩ (.slice (some ⟨wr.heap.size, 0, none⟩) 1 1)) rfl (by kernel_rfl) ?_ (hHeld.trans (Only.setCell (A := (· = lb)) _ (p := ⟨lb, i, none⟩) rfl _)) ?_ AllReadyH.nil
          · have kz := Hfz.out
            have kw := Hfw.out
            have ky := Hcl.out
            go_simp
          try simp only [Act.put, List.getElem_toArray, List.getElem_cons_succ, List.getElem_cons_zero, List.setIfInBounds_toArray, List.set_cons_zero, List.set_cons_succ]
          refine wpAnyH_done (by kernel_rfl) ?_ _
          clear hHeld
          have HOn : Hid (Only S w2 ((wr.drew.alloc (.cells #[sV s] 9)).setCell ⟨lb, i, none⟩ (.slice (some ⟨wr.heap.size, 0, none⟩) 1 1))) := Lib.hid (HOr.out.trans ((Only.drew _).trans ((Only.alloc _ _).trans (Only.setCell _ (p := ⟨lb, i, none⟩) H.out.sl _))))
          have HRn := Lib.hid (Hst.out.keep (w' := (wr.drew.alloc (.cells #[sV s] 9)).setCell ⟨lb, i, none⟩ (.slice (some ⟨wr.heap.size, 0, none⟩) 1 1)) (S' := fun k => S k ∨ (w2.heap.size ≤ k ∧ k < ((wr.drew.alloc (.cells #[sV s] 9)).setCell ⟨lb, i, none⟩ (.slice (some ⟨wr.heap.size, 0, none⟩) 1 1)).heap.size)) (fun _ _ _ => rfl) (fun k e => by
            have hz1 := HOr.out.size
            have hz2 : ((wr.drew.alloc (.cells #[sV s] 9)).setCell ⟨lb, i, none⟩ (.slice (some ⟨wr.heap.size, 0, none⟩) 1 1)).heap.size = wr.heap.size + 1 := by simp [World.setCell]
            have hz3 : (wr.drew.alloc (.cells #[sV s] 9)).heap.size = wr.heap.size + 1 := by simp
            rcases e with (e | e) | e
            · exact .inl e
            · exact .inr ⟨e.1, by omega⟩
            · exact .inr ⟨by omega, by omega⟩))
          generalize (wr.drew.alloc (.cells #[sV s] 9)).setCell ⟨lb, i, none⟩ (.slice (some ⟨wr.heap.size, 0, none⟩) 1 1) = wn at *
          go_wp2_with fail
          go_roundw
          case rel => exact ⟨i + 1, _, by omega, by go_num, HOn.out, HRn.out⟩
          case measure => first | (simp [intOf]; done) | (simp [intOf]; omega)
        · have he : i = d.safe.length := by omega
          subst he
          have hr := HR4'.out wr (HO.out.trans HOr.out) ⟨lb, c, ws', Hr.out.keep (fun _ _ _ => rfl) (fun k e => e.imp id (fun e => ⟨by rw [← Hsz.out]; exact e.1, e.2⟩))⟩
          go_wp2_with fail
          all_goals first | exact hr | exact fin hr rfl
  · have hr := hRd hdn
    rw [hdn] at c2
    clear hRd hR3 hR4 hdn
    go_wp2_with fail
    all_goals first | exact hr | exact fin hr rfl
end Go.Proofs.Ytfmpafheodpfoaa
