/- The disk's Copy. (Printed by diskco.py.) -/
import Derived.Test.YtfmpafheodpfoaaDiskOk
import Derived.Test.YtfmpafheodpfoaaDiskRh
namespace Go.Proofs.Ytfmpafheodpfoaa
open Go.RowKit
attribute [local go_sem ↓] Go.wp_at_zero Go.wp_at_succ
set_option linter.unusedVariables false
set_option linter.unusedSimpArgs false

theorem Own.blkP {α : Type} {enc : α → List Value} {e : TypeId} {size lo b n c : Nat} {w : World} {xs : List α} (h : Own enc e size lo w (.slice (some ⟨b, 0, none⟩) n c) xs) (hl : (xs.flatMap enc).length = xs.length * size) : BlkP w b (xs.flatMap enc) e := by
  obtain ⟨h1, h2⟩ := h
  rcases h2 with ⟨ee, hn⟩ | ⟨g', cap, cur, ee, hb, hg, hnc, hcm, hcs, htake⟩
  · cases ee
  · injection ee with e1 e2 e3
    injection e1 with e1
    injection e1 with e1
    subst e1
    refine ⟨cur.toList.drop (xs.length * size), ?_⟩
    unfold Blk
    rw [← htake, List.take_append_drop]
    simpa using hg
theorem alloc_belowC (w : World) (o : Obj) : Below w.heap.size w (w.alloc o) := (Below.refl _ _).alloc (Nat.le_refl _) _
set_option maxRecDepth 100000 in
set_option maxHeartbeats 2000000 in
theorem CloneS_any (v : Value) (xs : List (List UInt8)) (w : World) (h : (xs = [] ∧ v = .slice none 0 0) ∨ ∃ b c, v = .slice (some ⟨b, 0, none⟩) xs.length c ∧ CellsAt w b 0 (xs.flatMap secE) ∧ b < w.heap.size) (hs : ∀ s ∈ xs, s.length = 128) (hl : xs.length ≤ 10000000)
    (R : Ending → World → Prop) (hR : ∀ w' v', Below w.heap.size w w' → (xs = [] → v = .slice none 0 0 → v' = .slice none 0 0) → Own secE 73 128 w.heap.size w' v' xs → R (.returned v') w') : Calls Try.prog 36 #[v] w R := by
  rcases h with ⟨rfl, rfl⟩ | ⟨b, c, rfl, hc, hb⟩
  · have hq := fun w => Lib.run_eql_slice_nil (P := Try.prog) w 64 73 none 0 0 0 0 Try.underlying64
    have hr := hR w (.slice none 0 0) (Below.refl _ _) (fun _ _ => rfl) (Own.nil _ _ _ _ _)
    clear hR
    go_enter Try.func36, Try.ntmps36
    go_wp2_with fail
    first | exact hr | exact fin hr rfl
  · have HR := Lib.hid hR
    have Hc := Lib.hid hc
    have hq := fun w => Lib.run_eql_slice_nil (P := Try.prog) w 64 73 (some ⟨b, 0, none⟩) xs.length c 0 0 Try.underlying64
    clear hR hc
    go_enter Try.func36, Try.ntmps36
    go_wp2_with (at_builtin; refine AtApp.of ?_)
    have hB1 := alloc_belowC w (.cells #[] 73)
    obtain ⟨v2, w2, hr, ho2, ha2⟩ := appS (ty := 64) (lo := w.heap.size) (ys := xs) (Own.made secE 73 128 w.heap.size w rfl (Nat.le_refl _)) (srcS (n := xs.length) (c := c) (Hc.out.agree (.below hB1 (Nat.le_refl _)) (Nat.zero_le _) hb) hs rfl) (by simp; omega) hB1.size
    rw [List.nil_append] at ho2
    refine AtApp.go hr rfl rfl rfl rfl ?_
    have hB2 : Below w.heap.size w w2 := hB1.trans (ha2.below hB1.size (fun k e => by
      have : some w.heap.size = some k := e
      injection this with this; omega))
    have hr2 := HR.out w2 v2 hB2 (fun _ e => by cases e) ho2
    clear hr ho2 ha2
    go_wp2_with fail
    exact fin hr2 rfl
set_option maxRecDepth 100000 in
set_option maxHeartbeats 2000000 in
theorem clo_any (v : Value) (xs : List (List UInt8)) (w : World) (h : (xs = [] ∧ v = .slice none 0 0) ∨ ∃ b c, v = .slice (some ⟨b, 0, none⟩) xs.length c ∧ CellsAt w b 0 (xs.flatMap secE) ∧ b < w.heap.size) (hs : ∀ s ∈ xs, s.length = 128) (hl : xs.length ≤ 10000000)
    (R : Ending → World → Prop) (hR : ∀ w' v', Below w.heap.size w w' → (xs = [] → v = .slice none 0 0 → v' = .slice none 0 0) → Own secE 73 128 w.heap.size w' v' xs → R (.returned v') w') : Calls Try.prog 38 #[v] w R := by
  have HR := Lib.hid hR
  have H := Lib.hid h
  clear hR h
  go_enter Try.func38, Try.ntmps38
  go_wp2_with fail
  refine CloneS_any v xs w H.out hs hl _ (fun w' v' hB hn ho => ?_)
  have hr := HR.out w' v' hB hn ho
  clear hB hn ho
  go_wp2_with fail
  first | exact hr | exact fin hr rfl
/-- Rows of sectors of the call's own, each apart. -/
structure SRows (lo : Nat) (w : World) (lv : Value) (ws : List Value) (ss : List (List (List UInt8))) : Prop where
  ol : Own vE 64 1 lo w lv ws
  len : ws.length = ss.length
  row : ∀ k (h : k < ws.length) (h2 : k < ss.length), (ss[k] = [] → ws[k] = .slice none 0 0) ∧ Own secE 73 128 lo w ws[k] ss[k]
  ne : ∀ k (h : k < ws.length) g, ws[k].ownBlock = some g → lv.ownBlock ≠ some g
  apart : ∀ i j (h : i < ws.length) (h2 : j < ws.length) g, ws[i].ownBlock = some g → ws[j].ownBlock = some g → i = j
section
variable {lo : Nat} {w w' : World} {lv : Value} {ws : List Value} {ss : List (List (List UInt8))}
theorem SRows.nil (lo : Nat) (w : World) : SRows lo w (.slice none 0 0) [] [] := ⟨Own.nil _ _ _ _ _, rfl, fun _ h => absurd h (Nat.not_lt_zero _), fun _ h => absurd h (Nat.not_lt_zero _), fun _ _ h => absurd h (Nat.not_lt_zero _)⟩
theorem SRows.add (h : SRows lo w lv ws ss) (hlo : lo ≤ w.heap.size) {w1 : World} (hB : Below w.heap.size w w1) {v : Value} {s : List (List UInt8)} (hz : s = [] → v = .slice none 0 0) (hv : Own secE 73 128 w.heap.size w1 v s) {n : Nat} (hc : CellsAt w1 n 0 [v]) (hl : ws.length ≤ 100000) :
    ∃ lv' w', (Builtin.append_ #[65, 65] 65 #[lv, .slice (some ⟨n, 0, none⟩) 1 1]).run Try.prog w1 = .ok lv' w' ∧ SRows lo w' lv' (ws ++ [v]) (ss ++ [s]) ∧ Below lo w w' ∧ w1.heap.size ≤ w'.heap.size := by
  obtain ⟨i0, hi, hz0, hz1, hz2⟩ := info_parts infoW
  have hv1 : v.oneCell' = true := by obtain ⟨p, c, rfl⟩ := Own.slice hv; rfl
  have hs : Src Try.prog 1 65 (.slice (some ⟨n, 0, none⟩) 1 1) [v].length ([v].flatMap vE) w1 :=
    Src.ofSlice _ Try.underlying65 _ _ _ _ (by simp [vE]) (fun j u hu => by rw [Addr.add_lit]; exact hc j u (by simpa [vE] using hu)) (fun u hu => by
      simp only [List.flatMap_cons, List.flatMap_nil, vE, List.append_nil, List.mem_cons, List.not_mem_nil, or_false] at hu
      rw [hu]; exact hv1)
  have hs1 := hB.size
  obtain ⟨lv', w', hr, ho, ha⟩ := Own.app (Own.kept h.ol hB) 65 65 65 i0 _ 24 Try.underlying65 hi hz0 hz1 hz2 rfl hs (by simp; omega) (by decide) (Nat.le_trans hlo hs1)
  have hlt := Own.lt h.ol
  have hvl := Own.lt hv
  have hold : ∀ k (hk : k < ws.length) g, ws[k].ownBlock = some g → g < w.heap.size := fun k hk g e => (Own.lt (h.row k hk (by rw [← h.len]; exact hk)).2 g e).2
  have hlast : (ws ++ [v])[ws.length]'(by simp) = v := by simp
  refine ⟨lv', w', hr, ⟨ho, by simp [h.len], fun k h1 h2 => ?_, fun k h1 g e => ?_, fun i j h1 h2 g e1 e2 => ?_⟩, (hB.mono hlo).trans (ha.below (Nat.le_trans hlo hs1) (fun k e => (hlt k e).1)), ha.grown.size⟩
  · by_cases hk : k < ws.length
    · rw [List.getElem_append_left hk, List.getElem_append_left (by rw [← h.len]; exact hk)]
      have hr0 := h.row k hk (by rw [← h.len]; exact hk)
      exact ⟨hr0.1, Own.same hr0.2 (fun g e => (ha.grown.block g (by have := (Own.lt hr0.2 g e).2; omega) (fun e2 => h.ne k hk g e e2.symm)).trans (hB.block g (Own.lt hr0.2 g e).2))⟩
    · obtain rfl : k = ws.length := by simp at h1; omega
      rw [List.getElem_append_right (Nat.le_refl _), List.getElem_append_right (by rw [h.len]; exact Nat.le_refl _)]
      simp only [Nat.sub_self, h.len, List.getElem_cons_zero]
      exact ⟨hz, Own.mono0 (Own.same hv (fun g e => ha.grown.block g (hvl g e).2 (fun e2 => by have := (hlt g e2.symm).2; have := (hvl g e).1; omega))) hlo⟩
  · intro e2
    by_cases hk : k < ws.length
    · rw [List.getElem_append_left hk] at e
      have := hold k hk g e
      rcases ha.moved with e3 | ⟨q, e3, hq⟩
      · rw [e3] at e2; exact h.ne k hk g e e2
      · rw [e2] at e3; injection e3 with e3; omega
    · obtain rfl : k = ws.length := by simp at h1; omega
      rw [hlast] at e
      have := hvl g e
      rcases ha.moved with e3 | ⟨q, e3, hq⟩
      · rw [e3] at e2; have := (hlt g e2).2; omega
      · rw [e2] at e3; injection e3 with e3; omega
  · by_cases hi : i < ws.length
    · rw [List.getElem_append_left hi] at e1
      by_cases hj : j < ws.length
      · rw [List.getElem_append_left hj] at e2
        exact h.apart i j hi hj g e1 e2
      · obtain rfl : j = ws.length := by simp at h2; omega
        rw [hlast] at e2
        have := hold i hi g e1
        have := (hvl g e2).1
        omega
    · obtain rfl : i = ws.length := by simp at h1; omega
      rw [hlast] at e1
      by_cases hj : j < ws.length
      · rw [List.getElem_append_left hj] at e2
        have := hold j hj g e2
        have := (hvl g e1).1
        omega
      · simp at h2; omega
end

set_option maxRecDepth 100000 in
set_option maxHeartbeats 4000000 in
theorem each_any (S : Nat → Prop) (db sb wb kS kW : Nat) (ws : List Value) (d : Dk) (w : World) (h : DkIn w S db sb wb kS kW ws d) (hcnt : ∀ l ∈ d.writes, l.length ≤ 1000000) (R : Ending → World → Prop)
    (hR : ∀ w' v' vs, Below w.heap.size w w' → SRows w.heap.size w' v' vs d.writes → R (.returned v') w') :
    Calls Try.prog 37 #[.slice (some ⟨wb, 0, none⟩) d.safe.length kW, .func (.func 38) #[] #[]] w R := by
  have HR := Lib.hid hR
  have H := Lib.hid h
  have hcap := h.cap
  clear hR h
  go_enter Try.func37, Try.ntmps37
  go_wp2_with fail
  go_loopw [5, 10] (fun t5 t10 wr => ∃ (i : Nat) (vs : List Value), i ≤ d.safe.length ∧ t10 = .int .i64 (i : Int) ∧ Below w.heap.size w wr ∧ SRows w.heap.size wr t5 vs (d.writes.take i)) (fun _ t10 _ => d.safe.length - (intOf t10).toNat)
  case atStart => exact ⟨0, [], Nat.zero_le _, rfl, Below.refl _ _, SRows.nil _ _⟩
  case round =>
    obtain ⟨i, vs, hi1, rfl, hB, hrows⟩ := hrel
    have HB := Lib.hid hB
    have Hrows := Lib.hid hrows
    have Hr := Lib.hid (H.out.keep (w' := wr) (S' := S) (fun k _ hk => hB.block k hk) (fun _ e => e))
    have i0 : (0 : Int) ≤ (i : Int) := by omega
    have hwl : vs.length = i := by rw [hrows.len, List.length_take, H.out.lr]; omega
    obtain ⟨p3, n3, c3, e3⟩ : ∃ p n c, u5 = .slice p n c := by obtain ⟨p, c, e⟩ := Own.slice hrows.ol; exact ⟨p, _, c, e⟩
    subst e3
    by_cases hil : i < d.safe.length
    · have il : (i : Int) < (d.safe.length : Int) := by omega
      have hiw : i < ws.length := by rw [H.out.lw]; exact hil
      have hir : i < d.writes.length := by rw [H.out.lr]; exact hil
      have x0 : wr.cell? ⟨wb, i, none⟩ = some ws[i] := by have := Hr.out.hw.cells i ws[i] (List.getElem?_eq_getElem hiw); rwa [Nat.zero_add] at this
      obtain ⟨hz, ho⟩ := Hr.out.row i hiw hir
      have hform : (d.writes[i] = [] ∧ ws[i] = .slice none 0 0) ∨ ∃ b c, ws[i] = .slice (some ⟨b, 0, none⟩) d.writes[i].length c ∧ CellsAt wr b 0 (d.writes[i].flatMap secE) ∧ b < wr.heap.size := by
        by_cases hh : d.writes[i] = []
        · exact .inl ⟨hh, hz hh⟩
        · obtain ⟨g, c, e, -, h2, -, -, h5, -⟩ := Own.form ho hh
          exact .inr ⟨g, c, e, h5, h2⟩
      have Hform := Lib.hid hform
      have h128 := H.out.lwr d.writes[i] (List.getElem_mem hir)
      have hln := hcnt d.writes[i] (List.getElem_mem hir)
      have htk : d.writes.take (i + 1) = d.writes.take i ++ [d.writes[i]] := List.take_succ_eq_append_getElem hir
      have Htk := Lib.hid htk
      have Hz := Lib.hid hz
      have hwr := hB.size
      obtain ⟨pw, nw, cw, ew⟩ : ∃ p n c, ws[i] = .slice p n c := by obtain ⟨p, c, e⟩ := Own.slice ho; exact ⟨p, _, c, e⟩
      rw [ew] at x0
      have Hew := Lib.hid ew
      clear hB hrows hz ho hform htk ew
      go_wp2_with fail
      refine clo_any _ d.writes[i] wr (by have := Hform.out; rw [Hew.out] at this; exact this) h128 (by omega) _ (fun w1 v1 hB1 hn1 ho1 => ?_)
      obtain ⟨p1, n1, c1, e1⟩ : ∃ p n c, v1 = .slice p n c := by obtain ⟨p, c, e⟩ := Own.slice ho1; exact ⟨p, _, c, e⟩
      subst e1
      have hal := alloc_belowC w1 (.cells #[.slice p1 n1 c1] 64)
      have hB2 := hB1.trans (hal.mono hB1.size)
      obtain ⟨lv2, w3, hrun, hr2, hBr, hsz2⟩ := Hrows.out.add hwr hB2 (fun e => hn1 e (by have := Hz.out e; rw [Hew.out] at this; exact this)) (Own.kept ho1 hal) (n := w1.heap.size) (CellsAt.newAt w1 [.slice p1 n1 c1] 64 rfl) (by omega)
      rw [← Htk.out] at hr2
      obtain ⟨p4, n4, c4, e4⟩ : ∃ p n c, lv2 = .slice p n c := by obtain ⟨p, c, e⟩ := Own.slice hr2.ol; exact ⟨p, _, c, e⟩
      subst e4
      have HBn := Lib.hid (HB.out.trans hBr)
      have Hrn := Lib.hid hr2
      clear hB1 hn1 ho1 hal hB2 hr2 hBr hwl
      go_wp2_with (at_builtin; refine AtApp.of ?_)
      refine AtApp.go hrun rfl rfl rfl rfl ?_
      clear hrun
      go_wp2_with fail
      go_roundw
      case rel => exact ⟨i + 1, _, by omega, by go_num, HBn.out, Hrn.out⟩
      case measure => first | (simp [intOf]; done) | (simp [intOf]; omega)
    · have he : i = d.safe.length := by omega
      subst he
      have hr := HR.out wr _ vs HB.out (by have := Hrows.out; rwa [List.take_of_length_le (by rw [H.out.lr]; exact Nat.le_refl _)] at this)
      clear hB hrows hwl
      go_wp2_with fail
      first | exact hr | exact fin hr rfl

set_option maxRecDepth 100000 in
set_option maxHeartbeats 4000000 in
theorem Copy_any (S : Nat → Prop) (db : Nat) (d : Dk) (w : World) (h : DkAt w S db d) (hcnt : ∀ l ∈ d.writes, l.length ≤ 1000000) (R : Ending → World → Prop)
    (hR : ∀ w' db', Below w.heap.size w w' → w.heap.size ≤ db' → DkAt w' (fun k => w.heap.size ≤ k ∧ k < w'.heap.size) db' d → R (.returned (.pointer (some ⟨db', 0, none⟩))) w') :
    Calls Try.prog 20 #[.pointer (some ⟨db, 0, none⟩)] w R := by
  obtain ⟨sb, wb, kS, kW, ws, h⟩ := h
  have HR := Lib.hid hR
  have Hin := Lib.hid (h.keep (w' := w.drew) (S' := S) (fun _ _ _ => rfl) (fun _ e => e))
  have Hhd := Lib.hid h.hd
  have hdlt := h.hd.lt
  have hpos := h.pos
  have H := Lib.hid h
  have Hcnt := Lib.hid hcnt
  clear hR h hcnt
  go_enter Try.func20, Try.ntmps20
  go_wp2_with fail
  refine none_any db _ _ _ _ _ _ _ w H.out.hd hpos _ ?_
  go_wp2_with fail
  refine wp_region_held_drew (S := fun w' => Below w.heap.size w w') (by kernel_rfl) (Below.drew (Below.refl _ _)) (fun hHeld => ?_)
  refine wpAnyH_take (i := 0) (v := .pointer (some ⟨db, 0, none⟩)) rfl (by kernel_rfl) (by kernel_rfl) (by kernel_rfl) (fun _ _ _ h => h) (Or.inl ⟨by rfl, ?_⟩) hHeld ?_
  · intro w' hSw; go_simp
  try simp only [Act.put, List.getElem_toArray, List.getElem_cons_succ, List.getElem_cons_zero, List.setIfInBounds_toArray, List.set_cons_zero, List.set_cons_succ]
  refine wpAnyH_take (i := 1) (v := .pointer (some ⟨db, 0, none⟩)) rfl (by kernel_rfl) (by kernel_rfl) (by kernel_rfl) (fun _ _ _ h => h) (Or.inl ⟨by rfl, ?_⟩) hHeld ?_
  · intro w' hSw; go_simp
  try simp only [Act.put, List.getElem_toArray, List.getElem_cons_succ, List.getElem_cons_zero, List.setIfInBounds_toArray, List.set_cons_zero, List.set_cons_succ]
  refine wpAnyH_take (i := 2) (v := .pointer (some ⟨db, 0, none⟩)) rfl (by kernel_rfl) (by kernel_rfl) (by kernel_rfl) (fun _ _ _ h => h) (Or.inl ⟨by rfl, ?_⟩) hHeld ?_
  · intro w' hSw; go_simp
  try simp only [Act.put, List.getElem_toArray, List.getElem_cons_succ, List.getElem_cons_zero, List.setIfInBounds_toArray, List.set_cons_zero, List.set_cons_succ]
  refine wpAnyH_take (i := 3) (v := .slice (some ⟨sb, 0, none⟩) d.safe.length kS) rfl (by kernel_rfl) (by kernel_rfl) (by kernel_rfl) (fun _ _ _ h => h) (Or.inl ⟨by rfl, ?_⟩) hHeld ?_
  · intro w' hSw; obtain ⟨k0, k1, k2, k3, k4⟩ := (Hhd.out.below hSw hdlt).cells.c5; go_simp
  try simp only [Act.put, List.getElem_toArray, List.getElem_cons_succ, List.getElem_cons_zero, List.setIfInBounds_toArray, List.set_cons_zero, List.set_cons_succ]
  refine wpAnyH_take (i := 5) (v := .pointer (some ⟨db, 0, none⟩)) rfl (by kernel_rfl) (by kernel_rfl) (by kernel_rfl) (fun _ _ _ h => h) (Or.inl ⟨by rfl, ?_⟩) hHeld ?_
  · intro w' hSw; go_simp
  try simp only [Act.put, List.getElem_toArray, List.getElem_cons_succ, List.getElem_cons_zero, List.setIfInBounds_toArray, List.set_cons_zero, List.set_cons_succ]
  refine wpAnyH_take (i := 6) (v := .pointer (some ⟨db, 0, none⟩)) rfl (by kernel_rfl) (by kernel_rfl) (by kernel_rfl) (fun _ _ _ h => h) (Or.inl ⟨by rfl, ?_⟩) hHeld ?_
  · intro w' hSw; go_simp
  try simp only [Act.put, List.getElem_toArray, List.getElem_cons_succ, List.getElem_cons_zero, List.setIfInBounds_toArray, List.set_cons_zero, List.set_cons_succ]
  refine wpAnyH_take (i := 7) (v := .pointer (some ⟨db, 1, none⟩)) rfl (by kernel_rfl) (by kernel_rfl) (by kernel_rfl) (fun _ _ _ h => h) (Or.inl ⟨by rfl, ?_⟩) hHeld ?_
  · intro w' hSw; go_simp
  try simp only [Act.put, List.getElem_toArray, List.getElem_cons_succ, List.getElem_cons_zero, List.setIfInBounds_toArray, List.set_cons_zero, List.set_cons_succ]
  refine wpAnyH_take (i := 8) (v := .slice (some ⟨wb, 0, none⟩) d.safe.length kW) rfl (by kernel_rfl) (by kernel_rfl) (by kernel_rfl) (fun _ _ _ h => h) (Or.inl ⟨by rfl, ?_⟩) hHeld ?_
  · intro w' hSw; obtain ⟨k0, k1, k2, k3, k4⟩ := (Hhd.out.below hSw hdlt).cells.c5; go_simp
  try simp only [Act.put, List.getElem_toArray, List.getElem_cons_succ, List.getElem_cons_zero, List.setIfInBounds_toArray, List.set_cons_zero, List.set_cons_succ]
  refine wpAnyH_take (i := 10) (v := .pointer (some ⟨db, 0, none⟩)) rfl (by kernel_rfl) (by kernel_rfl) (by kernel_rfl) (fun _ _ _ h => h) (Or.inl ⟨by rfl, ?_⟩) hHeld ?_
  · intro w' hSw; go_simp
  try simp only [Act.put, List.getElem_toArray, List.getElem_cons_succ, List.getElem_cons_zero, List.setIfInBounds_toArray, List.set_cons_zero, List.set_cons_succ]
  refine wpAnyH_take (i := 11) (v := .pointer (some ⟨db, 0, none⟩)) rfl (by kernel_rfl) (by kernel_rfl) (by kernel_rfl) (fun _ _ _ h => h) (Or.inl ⟨by rfl, ?_⟩) hHeld ?_
  · intro w' hSw; go_simp
  try simp only [Act.put, List.getElem_toArray, List.getElem_cons_succ, List.getElem_cons_zero, List.setIfInBounds_toArray, List.set_cons_zero, List.set_cons_succ]
  refine wpAnyH_take (i := 12) (v := .pointer (some ⟨db, 2, none⟩)) rfl (by kernel_rfl) (by kernel_rfl) (by kernel_rfl) (fun _ _ _ h => h) (Or.inl ⟨by rfl, ?_⟩) hHeld ?_
  · intro w' hSw; go_simp
  try simp only [Act.put, List.getElem_toArray, List.getElem_cons_succ, List.getElem_cons_zero, List.setIfInBounds_toArray, List.set_cons_zero, List.set_cons_succ]
  refine wpAnyH_take (i := 13) (v := .int .i64 d.fuse) rfl (by kernel_rfl) (by kernel_rfl) (by kernel_rfl) (fun _ _ _ h => h) (Or.inl ⟨by rfl, ?_⟩) hHeld ?_
  · intro w' hSw; obtain ⟨k0, k1, k2, k3, k4⟩ := (Hhd.out.below hSw hdlt).cells.c5; go_simp
  try simp only [Act.put, List.getElem_toArray, List.getElem_cons_succ, List.getElem_cons_zero, List.setIfInBounds_toArray, List.set_cons_zero, List.set_cons_succ]
  refine wpAnyH_take (i := 14) (v := .pointer (some ⟨db, 0, none⟩)) rfl (by kernel_rfl) (by kernel_rfl) (by kernel_rfl) (fun _ _ _ h => h) (Or.inl ⟨by rfl, ?_⟩) hHeld ?_
  · intro w' hSw; go_simp
  try simp only [Act.put, List.getElem_toArray, List.getElem_cons_succ, List.getElem_cons_zero, List.setIfInBounds_toArray, List.set_cons_zero, List.set_cons_succ]
  refine wpAnyH_take (i := 15) (v := .pointer (some ⟨db, 0, none⟩)) rfl (by kernel_rfl) (by kernel_rfl) (by kernel_rfl) (fun _ _ _ h => h) (Or.inl ⟨by rfl, ?_⟩) hHeld ?_
  · intro w' hSw; go_simp
  try simp only [Act.put, List.getElem_toArray, List.getElem_cons_succ, List.getElem_cons_zero, List.setIfInBounds_toArray, List.set_cons_zero, List.set_cons_succ]
  refine wpAnyH_take (i := 16) (v := .pointer (some ⟨db, 3, none⟩)) rfl (by kernel_rfl) (by kernel_rfl) (by kernel_rfl) (fun _ _ _ h => h) (Or.inl ⟨by rfl, ?_⟩) hHeld ?_
  · intro w' hSw; go_simp
  try simp only [Act.put, List.getElem_toArray, List.getElem_cons_succ, List.getElem_cons_zero, List.setIfInBounds_toArray, List.set_cons_zero, List.set_cons_succ]
  refine wpAnyH_take (i := 17) (v := .bool d.down) rfl (by kernel_rfl) (by kernel_rfl) (by kernel_rfl) (fun _ _ _ h => h) (Or.inl ⟨by rfl, ?_⟩) hHeld ?_
  · intro w' hSw; obtain ⟨k0, k1, k2, k3, k4⟩ := (Hhd.out.below hSw hdlt).cells.c5; go_simp
  try simp only [Act.put, List.getElem_toArray, List.getElem_cons_succ, List.getElem_cons_zero, List.setIfInBounds_toArray, List.set_cons_zero, List.set_cons_succ]
  refine wpAnyH_take (i := 18) (v := .pointer (some ⟨db, 0, none⟩)) rfl (by kernel_rfl) (by kernel_rfl) (by kernel_rfl) (fun _ _ _ h => h) (Or.inl ⟨by rfl, ?_⟩) hHeld ?_
  · intro w' hSw; go_simp
  try simp only [Act.put, List.getElem_toArray, List.getElem_cons_succ, List.getElem_cons_zero, List.setIfInBounds_toArray, List.set_cons_zero, List.set_cons_succ]
  refine wpAnyH_take (i := 19) (v := .pointer (some ⟨db, 0, none⟩)) rfl (by kernel_rfl) (by kernel_rfl) (by kernel_rfl) (fun _ _ _ h => h) (Or.inl ⟨by rfl, ?_⟩) hHeld ?_
  · intro w' hSw; go_simp
  try simp only [Act.put, List.getElem_toArray, List.getElem_cons_succ, List.getElem_cons_zero, List.setIfInBounds_toArray, List.set_cons_zero, List.set_cons_succ]
  refine wpAnyH_take (i := 20) (v := .pointer (some ⟨db, 4, none⟩)) rfl (by kernel_rfl) (by kernel_rfl) (by kernel_rfl) (fun _ _ _ h => h) (Or.inl ⟨by rfl, ?_⟩) hHeld ?_
  · intro w' hSw; go_simp
  try simp only [Act.put, List.getElem_toArray, List.getElem_cons_succ, List.getElem_cons_zero, List.setIfInBounds_toArray, List.set_cons_zero, List.set_cons_succ]
  refine wpAnyH_take (i := 21) (v := .int .i64 d.ops) rfl (by kernel_rfl) (by kernel_rfl) (by kernel_rfl) (fun _ _ _ h => h) (Or.inl ⟨by rfl, ?_⟩) hHeld ?_
  · intro w' hSw; obtain ⟨k0, k1, k2, k3, k4⟩ := (Hhd.out.below hSw hdlt).cells.c5; go_simp
  try simp only [Act.put, List.getElem_toArray, List.getElem_cons_succ, List.getElem_cons_zero, List.setIfInBounds_toArray, List.set_cons_zero, List.set_cons_succ]
  refine wpAnyH_ready (rs := [4]) (by kernel_rfl) (by simp) ?_
  refine allCall (f := 36) (args := #[.slice (some ⟨sb, 0, none⟩) d.safe.length kS]) rfl (by kernel_rfl) (by kernel_rfl) ?_ AllReadyH.nil
  refine CloneS_any (.slice (some ⟨sb, 0, none⟩) d.safe.length kS) d.safe w.drew (.inr ⟨sb, kS, rfl, Hin.out.hs.cells, Hin.out.hs.lt⟩) Hin.out.ls (by have := Hin.out.cap; omega) _ (fun w1 v1 hB1 hn1 ho1 => ?_)
  obtain ⟨p1, n1, c1, e1⟩ : ∃ p n c, v1 = .slice p n c := by obtain ⟨p, c, e⟩ := Own.slice ho1; exact ⟨p, _, c, e⟩
  subst e1
  have hB1' : Below w.heap.size w w1 := hHeld.trans hB1
  refine ⟨_, rfl, hB1', ?_⟩
  clear hHeld
  have hHeld := hB1'
  try simp only [Act.put, List.getElem_toArray, List.getElem_cons_succ, List.getElem_cons_zero, List.setIfInBounds_toArray, List.set_cons_zero, List.set_cons_succ]
  refine wpAnyH_ready (rs := [9]) (by kernel_rfl) (by simp) ?_
  refine allCall (f := 37) (args := #[.slice (some ⟨wb, 0, none⟩) d.safe.length kW, .func (.func 38) #[] #[]]) rfl (by kernel_rfl) (by kernel_rfl) ?_ AllReadyH.nil
  refine each_any S db sb wb kS kW ws d w1 (Hin.out.keep (fun k _ hk => hB1'.block k hk) (fun _ e => e)) Hcnt.out _ (fun w2 v2 vs hB2 hr2 => ?_)
  obtain ⟨p2, n2, c2, e2⟩ : ∃ p n c, v2 = .slice p n c := by obtain ⟨p, c, e⟩ := Own.slice hr2.ol; exact ⟨p, _, c, e⟩
  subst e2
  have hB2' : Below w.heap.size w w2 := hB1'.trans (hB2.mono hB1'.size)
  refine ⟨_, rfl, hB2', ?_⟩
  clear hHeld
  have hHeld := hB2'
  try simp only [Act.put, List.getElem_toArray, List.getElem_cons_succ, List.getElem_cons_zero, List.setIfInBounds_toArray, List.set_cons_zero, List.set_cons_succ]
  refine wpAnyH_take (i := 22) (v := .agg #[.slice p1 n1 c1, .slice p2 n2 c2, .int .i64 d.fuse, .bool d.down, .int .i64 d.ops]) rfl (by kernel_rfl) (by kernel_rfl) (by kernel_rfl) (fun _ _ _ h => h) (Or.inl ⟨by rfl, ?_⟩) hHeld ?_
  · intro w' hSw; go_simp
  try simp only [Act.put, List.getElem_toArray, List.getElem_cons_succ, List.getElem_cons_zero, List.setIfInBounds_toArray, List.set_cons_zero, List.set_cons_succ]
  refine wpAnyH_ready (rs := [23]) (by kernel_rfl) (by simp) ?_
  refine allVal (v := .pointer (some ⟨w2.heap.size, 0, none⟩)) (w' := w2.alloc (.cells #[.slice p1 n1 c1, .slice p2 n2 c2, .int .i64 d.fuse, .bool d.down, .int .i64 d.ops] 67)) rfl (by kernel_rfl) ?_ (hHeld.alloc hHeld.size _) ?_ AllReadyH.nil
  · go_simp
  replace hHeld := hHeld.alloc hHeld.size (.cells #[.slice p1 n1 c1, .slice p2 n2 c2, .int .i64 d.fuse, .bool d.down, .int .i64 d.ops] 67)
  try simp only [Act.put, List.getElem_toArray, List.getElem_cons_succ, List.getElem_cons_zero, List.setIfInBounds_toArray, List.set_cons_zero, List.set_cons_succ]
  refine wpAnyH_take (i := 24) (v := .pointer (some ⟨w2.heap.size, 0, none⟩)) rfl (by kernel_rfl) (by kernel_rfl) (by kernel_rfl) (fun _ _ _ h => h) (Or.inl ⟨by rfl, ?_⟩) hHeld ?_
  · intro w' hSw; go_simp
  try simp only [Act.put, List.getElem_toArray, List.getElem_cons_succ, List.getElem_cons_zero, List.setIfInBounds_toArray, List.set_cons_zero, List.set_cons_succ]
  have HFin := Lib.hid hHeld
  refine wpAnyH_done (by kernel_rfl) ?_ _
  clear hHeld
  have hlen := hr2.len
  have hz0 : w.drew.heap.size = w.heap.size := rfl
  have hz1 := hB1'.size
  have hz2 := hB2.size
  have hlr := H.out.lr
  obtain ⟨sb', cs', es', ks1, ks2, -, -, -, -⟩ := Own.form ho1 (fun e => by rw [e] at hpos; exact absurd hpos (Nat.lt_irrefl _))
  obtain ⟨wb', cw', ew', kw1, kw2, -, -, -, -⟩ := Own.form hr2.ol (fun e => by rw [e] at hlen; simp at hlen; omega)
  injection es' with ep1 en1 ec1
  injection ew' with ep2 en2 ec2
  subst ep1 en1 ec1 ep2 en2 ec2
  have hb5 := Blk.new w2 [.slice (some ⟨sb', 0, none⟩) d.safe.length c1, .slice (some ⟨wb', 0, none⟩) vs.length c2, .int .i64 d.fuse, .bool d.down, .int .i64 d.ops] 67 rfl
  have ho1' := Own.kept (Own.kept ho1 hB2) (alloc_belowC w2 (.cells #[.slice (some ⟨sb', 0, none⟩) d.safe.length c1, .slice (some ⟨wb', 0, none⟩) vs.length c2, .int .i64 d.fuse, .bool d.down, .int .i64 d.ops] 67))
  have hk3 := alloc_belowC w2 (.cells #[.slice (some ⟨sb', 0, none⟩) d.safe.length c1, .slice (some ⟨wb', 0, none⟩) vs.length c2, .int .i64 d.fuse, .bool d.down, .int .i64 d.ops] 67)
  have hwp : vs.length = d.safe.length := by rw [hlen, hlr]
  have hat : DkAt (w2.alloc (.cells #[.slice (some ⟨sb', 0, none⟩) d.safe.length c1, .slice (some ⟨wb', 0, none⟩) vs.length c2, .int .i64 d.fuse, .bool d.down, .int .i64 d.ops] 67)) (fun k => w.heap.size ≤ k ∧ k < (w2.alloc (.cells #[.slice (some ⟨sb', 0, none⟩) d.safe.length c1, .slice (some ⟨wb', 0, none⟩) vs.length c2, .int .i64 d.fuse, .bool d.down, .int .i64 d.ops] 67)).heap.size) w2.heap.size d := by
    have hs3 := hk3.size
    have hs4 : (w2.alloc (.cells #[.slice (some ⟨sb', 0, none⟩) d.safe.length c1, .slice (some ⟨wb', 0, none⟩) vs.length c2, .int .i64 d.fuse, .bool d.down, .int .i64 d.ops] 67)).heap.size = w2.heap.size + 1 := by simp
    have hsP : BlkP (w2.alloc (.cells #[.slice (some ⟨sb', 0, none⟩) d.safe.length c1, .slice (some ⟨wb', 0, none⟩) vs.length c2, .int .i64 d.fuse, .bool d.down, .int .i64 d.ops] 67)) sb' (d.safe.flatMap secE) 73 := Own.blkP ho1' (secs_length _ H.out.ls)
    have hwP : BlkP (w2.alloc (.cells #[.slice (some ⟨sb', 0, none⟩) d.safe.length c1, .slice (some ⟨wb', 0, none⟩) vs.length c2, .int .i64 d.fuse, .bool d.down, .int .i64 d.ops] 67)) wb' vs 64 := by
      have hk := Own.kept hr2.ol hk3
      have := Own.blkP hk (by simp [flat_vE])
      rwa [flat_vE] at this
    refine ⟨sb', wb', c1, c2, vs, {
      hd := by rw [hwp] at hb5; rw [hwp]; exact hb5
      hs := hsP
      hw := hwP
      lw := hwp
      lr := hlr
      row := fun i a b => ⟨(hr2.row i a b).1, Own.mono0 (Own.kept (hr2.row i a b).2 hk3) (Nat.zero_le _)⟩
      apart := hr2.apart
      mine := fun i a g e => by
        have h3 := Own.lt (hr2.row i a (by rw [← hlen]; exact a)).2 g e
        have hne := hr2.ne i a g e
        exact ⟨⟨by omega, by omega⟩, by omega, by omega, fun e2 => hne (by rw [e2]; rfl)⟩
      sd := ⟨by omega, by omega⟩
      ss := ⟨by omega, by omega⟩
      sw := ⟨by omega, by omega⟩
      ds := by omega
      dw := by omega
      sbw := by omega
      ls := H.out.ls
      lwr := H.out.lwr
      pos := hpos
      cap := H.out.cap }⟩
  have hr := HR.out _ w2.heap.size HFin.out (by omega) hat
  clear hat hb5 ho1' hk3 ho1 hr2 hB1 hB2 hB1' hB2' hn1
  go_wp2_with fail
  first | exact hr | exact fin hr rfl
end Go.Proofs.Ytfmpafheodpfoaa
