/- Copies of rows and columns; rows of their own; what gathers rows. (Printed by rowc.py.) -/
import Derived.Test.YtpncblagjkbemaaRowB
import Derived.Lib.SliceRun
import Derived.Deep.DrawnRows
namespace Go.Proofs.Ytpncblagjkbemaa
open Go.RowKit
set_option linter.unusedVariables false
set_option linter.unusedSimpArgs false
attribute [local go_sem ↓] Go.wp_at_zero Go.wp_at_succ

def vE (v : Value) : List Value := [v]
abbrev OwnV := Own V.enc 24 3
abbrev OwnT := Own strE 9 1
abbrev OwnH := Own vE 42 1
theorem infoV : (Try.prog.info? 24).map (fun i => (i.zero, i.size, i.bytes)) = some (some (.agg #[.int .i64 0, .int .i64 0, .string ⟨#[]⟩]), 3, 32) := by kernel_rfl
theorem infoT : (Try.prog.info? 9).map (fun i => (i.zero, i.size, i.bytes)) = some (some (.string ⟨#[]⟩), 1, 16) := by kernel_rfl
theorem infoH : (Try.prog.info? 42).map (fun i => (i.zero, i.size, i.bytes)) = some (some (.slice none 0 0), 1, 24) := by kernel_rfl
theorem OwnV.sl {lo : Nat} {w : World} {v : Value} {xs : List V} (h : OwnV lo w v xs) : Row1 lo w.heap.size w v xs := Sl.ofOwn (fun _ => rfl) h
theorem OwnT.sl {lo : Nat} {w : World} {v : Value} {xs : List S} (h : OwnT lo w v xs) : Strs lo w.heap.size w v xs := Sl.ofOwn (fun _ => rfl) h
theorem OwnH.sl {lo : Nat} {w : World} {v : Value} {xs : List Value} (h : OwnH lo w v xs) : Sl (flat vE) 1 lo w.heap.size w v xs := Sl.ofOwn (fun _ => rfl) h
theorem Own.slice {α : Type} {enc : α → List Value} {e : TypeId} {size lo : Nat} {w : World} {v : Value} {xs : List α} (h : Own enc e size lo w v xs) : ∃ p cap, v = .slice p xs.length cap := by
  rcases h.2 with ⟨rfl, hn⟩ | ⟨g, cap, cur, rfl, -⟩
  · exact ⟨none, 0, by rw [hn]⟩
  · exact ⟨_, _, rfl⟩
theorem Own.same {α : Type} {enc : α → List Value} {e : TypeId} {size lo : Nat} {w w' : World} {v : Value} {xs : List α} (h : Own enc e size lo w v xs) (hg : ∀ g, v.ownBlock = some g → w'.heap[g]? = w.heap[g]?) : Own enc e size lo w' v xs := by
  refine ⟨h.1, ?_⟩
  rcases h.2 with h2 | ⟨g, cap, cur, rfl, hb, hgg, r⟩
  · exact .inl h2
  · exact .inr ⟨g, cap, cur, rfl, hb, (hg g rfl).trans hgg, r⟩
theorem Own.lower {α : Type} {enc : α → List Value} {e : TypeId} {size lo lo' : Nat} {w : World} {v : Value} {xs : List α} (h : Own enc e size lo w v xs) (hl : lo' ≤ lo) : Own enc e size lo' w v xs := by
  refine ⟨h.1, ?_⟩
  rcases h.2 with h2 | ⟨g, cap, cur, rfl, hb, r⟩
  · exact .inl h2
  · exact .inr ⟨g, cap, cur, rfl, Nat.le_trans hl hb, r⟩
theorem one3 : ∀ x : V, ∀ u ∈ V.enc x, u.oneCell' = true := fun x u hu => by
  simp only [V.enc, List.mem_cons, List.not_mem_nil, or_false] at hu
  rcases hu with rfl | rfl | rfl <;> rfl
theorem oneS : ∀ x : S, ∀ u ∈ strE x, u.oneCell' = true := fun x u hu => by
  simp only [strE, List.mem_cons, List.not_mem_nil, or_false] at hu
  subst hu; rfl
/-- Values behind a row's own. -/
theorem appVL {w : World} {lo lo2 hi2 : Nat} {v x : Value} {xs ys : List V} (h : OwnV lo w v xs) (hx : Row1 lo2 hi2 w x ys) (hb : xs.length + ys.length ≤ 4000000000000) (hlo : lo ≤ w.heap.size) :
    ∃ v' w', (Builtin.append_ #[42, 42] 42 #[v, x]).run Try.prog w = .ok v' w' ∧ OwnV lo w' v' (xs ++ ys) ∧ Appended w v w' v' := by
  obtain ⟨i0, hi, hz0, hz1, hz2⟩ := info_parts infoV
  exact Own.app h _ _ _ i0 _ 32 Try.underlying42 hi hz0 hz1 hz2 rfl (Src.ofSl hx (fun _ => rfl) one3 Try.underlying42) (by omega) (by omega) hlo
/-- One value behind a row's own. -/
theorem appV1 {w : World} {lo : Nat} {v : Value} {xs : List V} (h : OwnV lo w v xs) (x : V) {n : Nat} (hn : n = w.heap.size) (hb : xs.length ≤ 4000000000000) (hlo : lo ≤ w.heap.size) :
    ∃ v' w', (Builtin.append_ #[42, 42] 42 #[v, .slice (some ⟨n, 0, none⟩) 1 1]).run Try.prog (w.alloc (.cells #[.int .i64 x.kind, .int .i64 x.n, .string ⟨x.s.toArray⟩] 24)) = .ok v' w' ∧ OwnV lo w' v' (xs ++ [x]) ∧ Appended w v w' v' := by
  subst hn
  have hB : Below w.heap.size w (w.alloc (.cells (V.enc x).toArray 24)) := (Below.refl _ _).alloc (Nat.le_refl _) _
  obtain ⟨i0, hi, hz0, hz1, hz2⟩ := info_parts infoV
  have hc := CellsAt.newAt w (V.enc x) 24 rfl
  have hs : Src Try.prog 3 42 (.slice (some ⟨w.heap.size, 0, none⟩) 1 1) [x].length ([x].flatMap V.enc) (w.alloc (.cells (V.enc x).toArray 24)) :=
    Src.ofSlice _ Try.underlying42 _ _ _ _ (by simp [V.enc]) (fun j u hu => by rw [Addr.add_lit]; exact hc j u (by simpa using hu)) (fun u hu => by
      rw [List.flatMap_cons, List.flatMap_nil, List.append_nil] at hu
      exact one3 x u hu)
  obtain ⟨v', w', hr, ho, ha⟩ := (Own.kept h hB).app _ _ _ i0 _ 32 Try.underlying42 hi hz0 hz1 hz2 rfl hs (by simp only [List.length_cons, List.length_nil]; omega) (by omega) (Nat.le_trans hlo hB.size)
  exact ⟨v', w', hr, ho, (Appended.step v hB).trans ha⟩
theorem appTL {w : World} {lo lo2 hi2 : Nat} {v x : Value} {xs ys : List S} (h : OwnT lo w v xs) (hx : Strs lo2 hi2 w x ys) (hb : xs.length + ys.length ≤ 8000000000000) (hlo : lo ≤ w.heap.size) :
    ∃ v' w', (Builtin.append_ #[31, 31] 31 #[v, x]).run Try.prog w = .ok v' w' ∧ OwnT lo w' v' (xs ++ ys) ∧ Appended w v w' v' := by
  obtain ⟨i0, hi, hz0, hz1, hz2⟩ := info_parts infoT
  exact Own.app h _ _ _ i0 _ 16 Try.underlying31 hi hz0 hz1 hz2 rfl (Src.ofSl hx (fun _ => rfl) oneS Try.underlying31) (by omega) (by omega) hlo
/-- One header behind rows' own. -/
theorem appH1 {w : World} {lo : Nat} {v : Value} {hs : List Value} (h : OwnH lo w v hs) (a : Option Addr) (m c : Nat) {n : Nat} (hn : n = w.heap.size) (hb : hs.length ≤ 5000000000000) (hlo : lo ≤ w.heap.size) :
    ∃ v' w', (Builtin.append_ #[32, 32] 32 #[v, .slice (some ⟨n, 0, none⟩) 1 1]).run Try.prog (w.alloc (.cells #[.slice a m c] 42)) = .ok v' w' ∧ OwnH lo w' v' (hs ++ [.slice a m c]) ∧ Appended w v w' v' := by
  subst hn
  have hB : Below w.heap.size w (w.alloc (.cells (vE (.slice a m c)).toArray 42)) := (Below.refl _ _).alloc (Nat.le_refl _) _
  obtain ⟨i0, hi, hz0, hz1, hz2⟩ := info_parts infoH
  have hc := CellsAt.newAt w (vE (.slice a m c)) 42 rfl
  have hsr : Src Try.prog 1 32 (.slice (some ⟨w.heap.size, 0, none⟩) 1 1) [Value.slice a m c].length ([Value.slice a m c].flatMap vE) (w.alloc (.cells (vE (.slice a m c)).toArray 42)) :=
    Src.ofSlice _ Try.underlying32 _ _ _ _ (by simp [vE]) (fun j u hu => by rw [Addr.add_lit]; exact hc j u (by simpa using hu)) (fun u hu => by
      simp only [List.flatMap_cons, List.flatMap_nil, List.append_nil, vE, List.mem_cons, List.not_mem_nil, or_false] at hu
      subst hu
      rfl)
  obtain ⟨v', w', hr, ho, ha⟩ := (Own.kept h hB).app _ _ _ i0 _ 24 Try.underlying32 hi hz0 hz1 hz2 rfl hsr (by simp only [List.length_cons, List.length_nil]; omega) (by omega) (Nat.le_trans hlo hB.size)
  exact ⟨v', w', hr, ho, (Appended.step v hB).trans ha⟩
set_option maxRecDepth 100000 in
set_option maxHeartbeats 2000000 in
theorem CloneRow_any (klo khi : Nat) (l : List V) (v : Value) (w : World) (hk : Row1 klo khi w v l) (hkhi : khi ≤ w.heap.size) (hlen : l.length ≤ 4000000000000)
    (R : Ending → World → Prop) (hR : ∀ w' v', Below w.heap.size w w' → OwnV w.heap.size w' v' l → R (.returned v') w') : Calls Try.prog 81 #[v] w R := by
  rcases hk.cases with ⟨rfl, ao, cap, rfl, -, hn⟩ | ⟨hp, b, off, cap, rfl, hle, hle2, hb1, hb2, hc⟩
  · cases ao with
    | none =>
      cases hn rfl
      have hq := fun w => Lib.run_eql_slice_nil (P := Try.prog) w 42 24 none 0 0 0 0 Try.underlying42
      go_enter Try.func81, Try.ntmps81
      go_wp2_with (at_builtin; refine AtApp.of ?_)
      first | exact hR _ _ (Below.refl _ _) (Own.nil _ _ _ _ _) | exact fin (hR _ _ (Below.refl _ _) (Own.nil _ _ _ _ _)) rfl
    | some a =>
      have hq := fun w => Lib.run_eql_slice_nil (P := Try.prog) w 42 24 (some a) 0 cap 0 0 Try.underlying42
      have Hk := Lib.hid hk
      clear hk
      go_enter Try.func81, Try.ntmps81
      go_wp2_with (at_builtin; refine AtApp.of ?_)
      have hB1 : Below w.heap.size w (w.alloc (.cells #[] 24)) := (Below.refl _ _).alloc (Nat.le_refl _) _
      obtain ⟨v2, w2, hr, ho2, ha2⟩ := appVL (lo := w.heap.size) (ys := []) (Own.made V.enc 24 3 w.heap.size w rfl (Nat.le_refl _)) (Hk.out.below (flat_loc _) hB1 hkhi) (by simp) (by simp)
      refine AtApp.go hr rfl rfl rfl rfl ?_
      have hB2 : Below w.heap.size w w2 := hB1.trans (ha2.below hB1.size (fun k e => by simp [Value.ownBlock] at e; omega))
      clear hr ha2
      go_wp2
      exact fin (hR _ _ hB2 ho2) rfl
  · have Hk := Lib.hid hk
    clear hk hc
    have hq := fun w => Lib.run_eql_slice_nil (P := Try.prog) w 42 24 (some ⟨b, off, none⟩) l.length cap 0 0 Try.underlying42
    go_enter Try.func81, Try.ntmps81
    go_wp2_with (at_builtin; refine AtApp.of ?_)
    have hB1 : Below w.heap.size w (w.alloc (.cells #[] 24)) := (Below.refl _ _).alloc (Nat.le_refl _) _
    obtain ⟨v2, w2, hr, ho2, ha2⟩ := appVL (lo := w.heap.size) (ys := l) (Own.made V.enc 24 3 w.heap.size w rfl (Nat.le_refl _)) (Hk.out.below (flat_loc _) hB1 hkhi) (by simp; omega) (by simp)
    refine AtApp.go hr rfl rfl rfl rfl ?_
    have hB2 : Below w.heap.size w w2 := hB1.trans (ha2.below hB1.size (fun k e => by simp [Value.ownBlock] at e; omega))
    clear hr ha2
    go_wp2
    exact fin (hR _ _ hB2 ho2) rfl
set_option maxRecDepth 100000 in
set_option maxHeartbeats 2000000 in
theorem CloneStr_any (klo khi : Nat) (l : List S) (v : Value) (w : World) (hk : Strs klo khi w v l) (hkhi : khi ≤ w.heap.size) (hlen : l.length ≤ 8000000000000)
    (R : Ending → World → Prop) (hR : ∀ w' v', Below w.heap.size w w' → OwnT w.heap.size w' v' l → R (.returned v') w') : Calls Try.prog 97 #[v] w R := by
  rcases hk.cases with ⟨rfl, ao, cap, rfl, -, hn⟩ | ⟨hp, b, off, cap, rfl, hle, hle2, hb1, hb2, hc⟩
  · cases ao with
    | none =>
      cases hn rfl
      have hq := fun w => Lib.run_eql_slice_nil (P := Try.prog) w 31 9 none 0 0 0 0 Try.underlying31
      go_enter Try.func97, Try.ntmps97
      go_wp2_with (at_builtin; refine AtApp.of ?_)
      first | exact hR _ _ (Below.refl _ _) (Own.nil _ _ _ _ _) | exact fin (hR _ _ (Below.refl _ _) (Own.nil _ _ _ _ _)) rfl
    | some a =>
      have hq := fun w => Lib.run_eql_slice_nil (P := Try.prog) w 31 9 (some a) 0 cap 0 0 Try.underlying31
      have Hk := Lib.hid hk
      clear hk
      go_enter Try.func97, Try.ntmps97
      go_wp2_with (at_builtin; refine AtApp.of ?_)
      have hB1 : Below w.heap.size w (w.alloc (.cells #[] 9)) := (Below.refl _ _).alloc (Nat.le_refl _) _
      obtain ⟨v2, w2, hr, ho2, ha2⟩ := appTL (lo := w.heap.size) (ys := []) (Own.made strE 9 1 w.heap.size w rfl (Nat.le_refl _)) (Hk.out.below (flat_loc _) hB1 hkhi) (by simp) (by simp)
      refine AtApp.go hr rfl rfl rfl rfl ?_
      have hB2 : Below w.heap.size w w2 := hB1.trans (ha2.below hB1.size (fun k e => by simp [Value.ownBlock] at e; omega))
      clear hr ha2
      go_wp2
      exact fin (hR _ _ hB2 ho2) rfl
  · have Hk := Lib.hid hk
    clear hk hc
    have hq := fun w => Lib.run_eql_slice_nil (P := Try.prog) w 31 9 (some ⟨b, off, none⟩) l.length cap 0 0 Try.underlying31
    go_enter Try.func97, Try.ntmps97
    go_wp2_with (at_builtin; refine AtApp.of ?_)
    have hB1 : Below w.heap.size w (w.alloc (.cells #[] 9)) := (Below.refl _ _).alloc (Nat.le_refl _) _
    obtain ⟨v2, w2, hr, ho2, ha2⟩ := appTL (lo := w.heap.size) (ys := l) (Own.made strE 9 1 w.heap.size w rfl (Nat.le_refl _)) (Hk.out.below (flat_loc _) hB1 hkhi) (by simp; omega) (by simp)
    refine AtApp.go hr rfl rfl rfl rfl ?_
    have hB2 : Below w.heap.size w w2 := hB1.trans (ha2.below hB1.size (fun k e => by simp [Value.ownBlock] at e; omega))
    clear hr ha2
    go_wp2
    exact fin (hR _ _ hB2 ho2) rfl
/-- Rows of their own: headers in a block of their own, each row's values in one of its own, all of them at lo or behind it. -/
structure OwnR (lo : Nat) (w : World) (v : Value) (hs : List Value) (xs : List (List V)) : Prop where
  own : OwnH lo w v hs
  len : hs.length = xs.length
  row : ∀ i (h : i < hs.length) (h2 : i < xs.length), OwnV lo w hs[i] xs[i]
  apart : ∀ i (h : i < hs.length) k, hs[i].ownBlock = some k → v.ownBlock ≠ some k
theorem OwnR.nil (lo : Nat) (w : World) : OwnR lo w (.slice none 0 0) [] [] := ⟨Own.nil _ _ _ _ _, rfl, (fun i h => absurd h (Nat.not_lt_zero _)), (fun i h => absurd h (Nat.not_lt_zero _))⟩
theorem OwnR.kept {lo : Nat} {w w' : World} {v : Value} {hs : List Value} {xs : List (List V)} (h : OwnR lo w v hs xs) (hB : Below w.heap.size w w') : OwnR lo w' v hs xs :=
  ⟨Own.kept h.own hB, h.len, fun i hi h2 => Own.kept (h.row i hi h2) hB, h.apart⟩
theorem OwnR.lower {lo lo' : Nat} {w : World} {v : Value} {hs : List Value} {xs : List (List V)} (h : OwnR lo w v hs xs) (hl : lo' ≤ lo) : OwnR lo' w v hs xs :=
  ⟨Own.lower h.own hl, h.len, fun i hi h2 => Own.lower (h.row i hi h2) hl, h.apart⟩
theorem OwnR.rws {lo : Nat} {w : World} {v : Value} {hs : List Value} {xs : List (List V)} (h : OwnR lo w v hs xs) : Rws lo w.heap.size w v xs := by
  obtain ⟨ao, cap, hv, hle, hcm, hn, hc⟩ := (OwnH.sl h.own).form
  refine ⟨ao, cap, by rw [hv, h.len], by rw [← h.len]; exact hle, by simpa [maxLen] using hcm, hn, fun hne => ?_⟩
  have h0 : 0 < hs.length := by
    rw [h.len]
    cases xs with
    | nil => exact absurd rfl hne
    | cons a r => simp
  obtain ⟨b, off, rfl, hb1, hb2, hcc⟩ := hc 0 h0
  refine ⟨b, off, rfl, hb1, hb2, fun k hk => ?_⟩
  have hk' : k < hs.length := by rw [h.len]; exact hk
  obtain ⟨cs, hl, hcs, rfl⟩ := hcc k hk'
  exact ⟨_, hl, hcs, hs[k], rfl, OwnV.sl (h.row k hk' hk)⟩
/-- A row more. -/
theorem OwnR.snoc {lo : Nat} {w w1 : World} {v v1 hv : Value} {hs : List Value} {xs : List (List V)} {x : List V} (h : OwnR lo w v hs xs) (hx : OwnV lo w hv x) (ha : ∀ k, hv.ownBlock = some k → v.ownBlock ≠ some k)
    (ho : OwnH lo w1 v1 (hs ++ [hv])) (hap : Appended w v w1 v1) : OwnR lo w1 v1 (hs ++ [hv]) (xs ++ [x]) := by
  have keep : ∀ {u : Value} {y : List V}, OwnV lo w u y → (∀ k, u.ownBlock = some k → v.ownBlock ≠ some k) → OwnV lo w1 u y ∧ ∀ k, u.ownBlock = some k → v1.ownBlock ≠ some k := by
    intro u y hu hne
    refine ⟨Own.same hu (fun g hg => ?_), fun k hk => ?_⟩
    · exact hap.grown.block g (Own.lt hu g hg).2 (fun e => hne g hg e.symm)
    · exact hap.apart (Own.lt hu k hk).2 (hne k hk)
  refine ⟨ho, by simp [h.len], fun i hi h2 => ?_, fun i hi k hk => ?_⟩
  · by_cases e : i < hs.length
    · have e2 : i < xs.length := by rw [← h.len]; exact e
      rw [List.getElem_append_left e, List.getElem_append_left e2]
      exact (keep (h.row i e e2) (fun k hk => h.apart i e k hk)).1
    · have e1 : i = hs.length := by rw [List.length_append, List.length_singleton] at hi; omega
      subst e1
      have e2 : hs.length = xs.length := h.len
      rw [List.getElem_append_right (Nat.le_refl _), List.getElem_append_right (by omega)]
      simp only [Nat.sub_self, e2, List.getElem_cons_zero]
      exact (keep hx ha).1
  · by_cases e : i < hs.length
    · rw [List.getElem_append_left e] at hk
      have e2 : i < xs.length := by rw [← h.len]; exact e
      exact (keep (h.row i e e2) (fun k hk => h.apart i e k hk)).2 k hk
    · have e1 : i = hs.length := by rw [List.length_append, List.length_singleton] at hi; omega
      subst e1
      rw [List.getElem_append_right (Nat.le_refl _)] at hk
      simp only [Nat.sub_self, List.getElem_cons_zero] at hk
      exact (keep hx ha).2 k hk
theorem filterMap_take {α β : Type} (f : α → Option β) (l : List α) (k : Nat) (h : k < l.length) : (l.take (k + 1)).filterMap f = (l.take k).filterMap f ++ (f l[k]).toList := by
  rw [List.take_succ_eq_append_getElem h, List.filterMap_append]
  cases hf : f l[k] <;> simp [hf]
set_option maxRecDepth 100000 in
set_option maxHeartbeats 4000000 in
/-- What gathers rows: of each row what something makes of it, as far as it says so. -/
theorem gather_any (lo hi : Nat) (l : List (List V)) (v : Value) (g : FuncId) (capt : Array Value) (f : List V → Option (List V)) (w : World) (hv : Rws lo hi w v l) (hhi : hi ≤ w.heap.size) (hlen : l.length ≤ 5000000000000)
    (he : ∀ args w, (callFunc g args).run Try.prog w = .ok (.enter g args) w)
    (hq : ∀ k (hk : k < l.length) xv w' R, Below w.heap.size w w' → Row1 lo hi w' xv l[k] → (∀ w'' yv, Below w'.heap.size w' w'' → ((f l[k]).isSome = true → OwnV w'.heap.size w'' yv ((f l[k]).getD [])) → (∃ a m c, yv = .slice a m c) → R (.returned (.tuple #[yv, .bool (f l[k]).isSome])) w'') →
      Calls Try.prog g (#[xv] ++ capt) w' R)
    (R : Ending → World → Prop) (hR : ∀ w' v' hs, Below w.heap.size w w' → OwnR w.heap.size w' v' hs (l.filterMap f) → R (.returned v') w') : Calls Try.prog 71 #[v, .func (.func g) #[] capt] w R := by
  have HR := Lib.hid hR
  have Hv := Lib.hid hv
  have Hq := Lib.hid hq
  obtain ⟨av, cv, rfl, hcl, hcm, -, -⟩ := hv.form
  have hl63 := hv.len
  clear hR hv hq
  go_enter Try.func71, Try.ntmps71
  go_wp2_with fail
  go_loopw [5, 12] (fun t5 t12 wr => ∃ (k : Nat) (hs : List Value), k ≤ l.length ∧ t12 = .int .i64 k ∧ OwnR w.heap.size wr t5 hs ((l.take k).filterMap f) ∧ Below w.heap.size w wr) (fun _ t12 _ => l.length - (intOf t12).toNat)
  case atStart => exact ⟨0, [], Nat.zero_le _, rfl, OwnR.nil _ _, Below.refl _ _⟩
  case round =>
    obtain ⟨k, hs, hk, rfl, ho, hB⟩ := hrel
    obtain ⟨wo, ewo⟩ : ∃ x, x = wr := ⟨_, rfl⟩
    subst ewo
    have Ho := Lib.hid ho
    have HB := Lib.hid hB
    have hz := hB.size
    have kk0 : (0 : Int) ≤ (k : Int) := by omega
    obtain ⟨po, co, hpo⟩ := Own.slice ho.own
    clear ho hB
    by_cases hlt : k < l.length
    · obtain ⟨ao', cap', e', -, -, -, hc⟩ := (Sl.below Hv.out rowE_loc HB.out hhi).form
      injection e' with e1 e2 e3
      subst e1 e3
      obtain ⟨b, off, rfl, hb1, hb2, hcc⟩ := hc k hlt
      obtain ⟨cs, _, hcs, sv, rfl, hsv⟩ := hcc k hlt
      have g0 := hcs.c1
      rw [Nat.mul_one] at g0
      have kkl : (k : Int) < (l.length : Int) := by omega
      have Hsv := Lib.hid hsv
      have Hst := Lib.hid (filterMap_take f l k hlt)
      have hsl : hs.length ≤ k := by
        rw [Ho.out.len]
        exact Nat.le_trans (List.length_filterMap_le _ _) (by rw [List.length_take]; omega)
      have hslv := hsv
      obtain ⟨ax, cx, rfl, -, -, -, -⟩ := hslv.form
      clear hcc hcs hc hsv hslv
      have Hq1 := Lib.hid (Hq.out k hlt)
      generalize l[k] = x at *
      subst hpo
      go_wp2_with fail
      refine Hq1.out _ wo _ HB.out Hsv.out (fun w2 yv hB2 hy hys => ?_)
      have HB2 := Lib.hid (HB.out.trans (hB2.mono hz))
      have Ho2 := Lib.hid (Ho.out.kept hB2)
      have hz2 := hB2.size
      obtain ⟨ya, ym, yc, rfl⟩ := hys
      cases hf : f x with
      | none =>
        have Hn : Hid ((l.take (k + 1)).filterMap f = (l.take k).filterMap f) := Lib.hid (by rw [Hst.out, hf]; simp)
        simp only [hf, Option.isSome_none]
        clear hy hf hB2
        go_wp2_with fail
        go_roundw
        case rel => exact ⟨k + 1, hs, by omega, by go_num, by rw [Hn.out]; exact Ho2.out, HB2.out⟩
        case measure => simp [intOf]; omega
      | some y =>
        have Hn : Hid ((l.take (k + 1)).filterMap f = (l.take k).filterMap f ++ [y]) := Lib.hid (by rw [Hst.out, hf]; simp)
        have hoy : OwnV wo.heap.size w2 (.slice ya ym yc) y := by
          have := hy (by rw [hf]; rfl)
          rwa [hf] at this
        simp only [hf, Option.isSome_some]
        have hya : ∀ q, (Value.slice ya ym yc).ownBlock = some q → (Value.slice po hs.length co).ownBlock ≠ some q := fun q hq2 e => by
          have h1 := (Own.lt hoy q hq2).1
          have h2 := (Own.lt Ho.out.own q e).2
          omega
        obtain ⟨v3, w3, hr3, ho3, ha3⟩ := appH1 Ho2.out.own ya ym yc rfl (by omega) (by omega)
        have HO3 := Lib.hid (Ho2.out.snoc (Own.lower hoy hz) hya ho3 ha3)
        have HB3 := Lib.hid (HB2.out.trans (ha3.below (B := w.heap.size) (by omega) (fun q e => (Own.lt Ho.out.own q e).1)))
        clear hy hf hB2 hoy ho3 ha3 hya
        go_wp2_with (at_builtin; refine AtApp.of ?_)
        refine AtApp.go hr3 rfl rfl rfl rfl ?_
        go_wp2_with fail
        go_roundw
        case rel => exact ⟨k + 1, _, by omega, by go_num, by rw [Hn.out]; exact HO3.out, HB3.out⟩
        case measure => simp [intOf]; omega
    · obtain rfl : k = l.length := by omega
      have hO := Ho.out
      rw [List.take_length] at hO
      have hr := HR.out wo _ hs HB.out hO
      clear hO
      subst hpo
      go_wp2_with fail
      first | exact hr | exact fin hr rfl
set_option maxRecDepth 100000 in
set_option maxHeartbeats 2000000 in
theorem own_any (klo khi : Nat) (l : List V) (v : Value) (w : World) (hk : Row1 klo khi w v l) (hkhi : khi ≤ w.heap.size) (hlen : l.length ≤ 4000000000000)
    (R : Ending → World → Prop) (hR : ∀ w' v', Below w.heap.size w w' → OwnV w.heap.size w' v' l → R (.returned (.tuple #[v', .bool true])) w') : Calls Try.prog 72 #[v] w R := by
  have HR := Lib.hid hR
  have Hk := Lib.hid hk
  obtain ⟨av, cv, rfl, -, -, -, -⟩ := hk.form
  clear hR hk
  go_enter Try.func72, Try.ntmps72
  go_wp2_with fail
  refine CloneRow_any klo khi l _ w Hk.out hkhi hlen _ (fun w1 v1 hB1 ho1 => ?_)
  have hr := HR.out w1 v1 hB1 ho1
  obtain ⟨p1, c1, rfl⟩ := Own.slice ho1
  clear hB1 ho1
  go_wp2_with fail
  first | exact hr | exact fin hr rfl
end Go.Proofs.Ytpncblagjkbemaa
