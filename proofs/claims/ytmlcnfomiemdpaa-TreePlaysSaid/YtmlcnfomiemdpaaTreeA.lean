/- Trees: Cut, Len, Rank, At, Seek, Back. (Printed by treea.py.) -/
import Derived.Test.YtmlcnfomiemdpaaTreeK
import Derived.Test.YtmlcnfomiemdpaaAll
import Derived.Test.YtmlcnfomiemdpaaOnly
namespace Go.Proofs.Ytmlcnfomiemdpaa
open Go.RowKit
attribute [local go_sem ↓] Go.wp_at_zero Go.wp_at_succ
set_option linter.unusedVariables false
set_option linter.unusedSimpArgs false

set_option maxRecDepth 100000 in
set_option maxHeartbeats 2000000 in
theorem Cut_any (B : Nat → Prop) (lo klo khi : Nat) (t : T) (k : List UInt8) (p kv : Value) (w : World) (hB : ∀ b, B b → b < lo) (hlo : lo ≤ w.heap.size) (ht : Tr B lo w t p) (hk : Bytes klo khi w kv k) (hkhi : khi ≤ w.heap.size) (hm : t.many ≤ 1000000)
    (R : Ending → World → Prop) (hok : ∀ w' b, Below w.heap.size w w' → lo ≤ w'.heap.size → Tr B lo w' (t.cut k) (.pointer (some b)) → R (.returned (.pointer (some b))) w') :
    Calls Try.prog 23 #[p, kv] w R := by
  have Hk := Lib.hid hk
  obtain ⟨ak, ck, rfl, -, -, -⟩ := hk.form
  clear hk
  go_enter Try.func23, Try.ntmps23
  go_wp2_with fail
  refine root_any B lo t p _ ht _ fun q hn => ?_
  go_wp2_with fail
  refine cut_any B lo k hB t _ _ klo khi _ hlo hn Hk.out hkhi (by omega) _ fun w3 q3 hB3 hlo3 ht3 => ?_
  go_wp2_with fail
  have hb4 : Below w3.heap.size w3 (w3.alloc (.cells #[.pointer q3] 52)) := (Below.refl _ _).alloc (Nat.le_refl _) _
  have hc4 := (CellsAt.new w3 [.pointer q3] 52).c1
  have hlo4 := Nat.le_trans hlo3 hb4.size
  have hr := hok _ ⟨w3.heap.size, 0, none⟩ (hB3.trans (hb4.mono hB3.size)) hlo4 (.inr ⟨w3.heap.size, q3, rfl, .inr ⟨hlo3, by simp⟩, hc4, Tn.step ht3 hB hlo3 hb4⟩)
  first | exact hr | exact fin hr rfl

set_option maxRecDepth 100000 in
set_option maxHeartbeats 2000000 in
theorem Len_any (B : Nat → Prop) (lo : Nat) (t : T) (p : Value) (w : World) (ht : Tr B lo w t p) (R : Ending → World → Prop) (hR : R (.returned (.int .i64 t.many)) w) : Calls Try.prog 16 #[p] w R := by
  go_enter Try.func16, Try.ntmps16
  go_wp2_with fail
  refine root_any B lo t p _ ht _ fun q hn => ?_
  go_wp2_with fail
  refine many_any _ t _ _ hn _ ?_
  go_wp2_with fail
  first | exact hR | exact fin hR rfl

set_option maxRecDepth 100000 in
set_option maxHeartbeats 4000000 in
theorem Rank_any (B : Nat → Prop) (lo klo khi : Nat) (t : T) (k : List UInt8) (p kv : Value) (w : World) (ht : Tr B lo w t p) (hk : Bytes klo khi w kv k) (hm : t.many ≤ 1000000)
    (R : Ending → World → Prop) (hR : R (.returned (.int .i64 (t.rank k))) w) : Calls Try.prog 15 #[p, kv] w R := by
  have Hk := Lib.hid hk
  obtain ⟨ak, ck, rfl, -, -, -⟩ := hk.form
  clear hk
  have HR := Lib.hid hR
  clear hR
  go_enter Try.func15, Try.ntmps15
  go_wp2_with fail
  refine root_any B lo t p _ ht _ fun q hn => ?_
  have Hn := Lib.hid hn
  clear hn ht
  go_wp2_with fail
  go_loopg [5, 6] (t.many + 1) (fun n t5 t6 wr => wr = w ∧ ∃ (t' : T) (c : Nat), Tn B lo w t' t6 ∧ t5 = .int .i64 c ∧ c + t'.rank k = t.rank k ∧ t'.many < n ∧ c + t'.many ≤ 1000000)
  case atStart => exact ⟨rfl, t, 0, Hn.out, rfl, Nat.zero_add _, Nat.lt_succ_self _, by omega⟩
  case round =>
    obtain ⟨rfl, t', c, h', rfl, hf, hmm, hcm⟩ := hrel
    cases t' with
    | nil =>
      cases h'
      have hc : c = t.rank k := by simpa [T.rank] using hf
      subst hc
      have hr := HR.out
      go_wp2_with fail
      first | exact hr | exact fin hr rfl
    | node k' v' l r =>
      obtain ⟨b, kv', vv', ql, qr, rfl, hb, hc, hk', -, hl, hr⟩ := h'.open
      obtain ⟨c0, -, c2, c3, -, -⟩ := hc.c6
      obtain ⟨kb, -, hk''⟩ := hk'
      have hbc := fun R hR => bytes_Compare wr hk'' Hk.out R hR
      simp only [T.many] at hmm hcm
      have Hb := Lib.hid hbc
      have Hf := Lib.hid hf
      obtain ⟨ak', ck', rfl, -, -, -⟩ := hk''.form
      have Hl := Lib.hid hl
      clear hc hk'' hbc hf h' hl
      go_wp2_with fail
      refine Hb.out _ ?_
      by_cases hlt : Lib.compareBytes k' k < 0
      · have e : T.rank k (.node k' v' l r) = l.many + 1 + r.rank k := by simp only [T.rank]; rw [if_pos hlt]
        have Hff : Hid (c + (l.many + 1) + r.rank k = t.rank k) := Lib.hid (by rw [← Hf.out, e]; omega)
        generalize Lib.compareBytes k' k = cc at *
        go_wp2_with fail
        refine many_any _ l _ _ Hl.out _ ?_
        have w1 : IntKind.i64.wrap ((l.many : Int) + 1) = (l.many : Int) + 1 := wrap_ok (by omega) (by omega)
        go_wp2_with fail
        go_roundg (gk - 1)
        case measure => omega
        case rel => exact ⟨rfl, r, c + (l.many + 1), hr, by simp, Hff.out, by omega, by omega⟩
      · have e : T.rank k (.node k' v' l r) = l.rank k := by simp only [T.rank]; rw [if_neg hlt]
        have Hff : Hid (c + l.rank k = t.rank k) := Lib.hid (by rw [← Hf.out, e])
        generalize Lib.compareBytes k' k = cc at *
        go_wp2_with fail
        go_roundg (gk - 1)
        case measure => omega
        case rel => exact ⟨rfl, l, c, Hl.out, rfl, Hff.out, by omega, by omega⟩

theorem Tr.fix {B : Nat → Prop} {lo : Nat} {w w' : World} {t : T} {p : Value} (h : Tr B lo w t p) (hB : ∀ b, B b → b < lo) (hlo : lo ≤ w.heap.size) (hb : Below w.heap.size w w') (L : Nat) : Tr (Xs B lo w) L w' t p := by
  rcases h with h | ⟨b, q, e, hx, hc, ht⟩
  · exact .inl h
  · exact .inr ⟨b, q, e, .inl hx, by rw [World.cell?_of_block (hb.block b (Xs.lt hB hlo hx))]; exact hc, Nd.on (Xs.on hB hlo hb) (fun _ h => .inl h) t ht⟩
theorem runPair {w : World} {b o : Nat} {k v : Value} (h : CellsAt w b o [k, v]) : (loadVar 43 ⟨b, o, none⟩).run Try.prog w = .ok (.agg #[k, v]) w := h.runVar (fun w => by kernel_rfl) (fun w => by kernel_rfl)
set_option maxRecDepth 100000 in
set_option maxHeartbeats 8000000 in
theorem At_any (B : Nat → Prop) (lo : Nat) (t : T) (i : Int) (p : Value) (w : World) (hB : ∀ b, B b → b < lo) (hlo : lo ≤ w.heap.size) (ht : Tr B lo w t p) (hm : t.many ≤ 1000000) (hlen : ∀ x ∈ t.toL, x.1.length ≤ 100000000 ∧ x.2.length ≤ 100000000)
    (R : Ending → World → Prop) (hno : (i < 0 ∨ (t.many : Int) ≤ i) → ∀ w', Below w.heap.size w w' → R (.returned (.tuple #[.agg #[.slice none 0 0, .slice none 0 0], .bool false])) w')
    (hyes : ∀ n : Nat, i = n → n < t.many → ∀ w' k2 v2, Below w.heap.size w w' → OwnB w.heap.size w' k2 (t.at n).1 → OwnB w.heap.size w' v2 (t.at n).2 → (∀ g, k2.ownBlock = some g → v2.ownBlock ≠ some g) → R (.returned (.tuple #[.agg #[k2, v2], .bool true])) w') :
    Calls Try.prog 21 #[p, .int .i64 i] w R := by
  have Hno := Lib.hid hno
  have Hyes := Lib.hid hyes
  have Hlen := Lib.hid hlen
  clear hno hyes hlen
  have hBx : Below w.heap.size w (w.alloc (.cells #[.slice none 0 0, .slice none 0 0] 43)) := (Below.refl _ _).alloc (Nat.le_refl _) _
  have hbx : Blk (w.alloc (.cells #[.slice none 0 0, .slice none 0 0] 43)) w.heap.size [.slice none 0 0, .slice none 0 0] 43 := Blk.new w _ 43 rfl
  have hsx : (w.alloc (.cells #[.slice none 0 0, .slice none 0 0] 43)).heap.size = w.heap.size + 1 := by simp
  have Htx := Lib.hid (Tr.fix ht hB hlo hBx (w.alloc (.cells #[.slice none 0 0, .slice none 0 0] 43)).heap.size)
  have hB1 : ∀ b, Xs B lo w b → b < w.heap.size := fun b h => Xs.lt hB hlo h
  clear ht
  go_enter Try.func21, Try.ntmps21
  go_wp2_with fail
  generalize hW0 : w.alloc (.cells #[.slice none 0 0, .slice none 0 0] 43) = w0 at *
  clear hW0
  generalize Xs B lo w = B' at *
  clear hB hlo B lo
  refine root_any B' w0.heap.size t p w0 Htx.out _ fun q hn => ?_
  have Hn := Lib.hid hn
  clear hn Htx
  by_cases hi0 : i < 0
  · have hB2 : Below w.heap.size w ((w0.setCell ⟨w.heap.size, 0, none⟩ (.slice none 0 0)).setCell ⟨w.heap.size, 1, none⟩ (.slice none 0 0)) := (hBx.setCell (p := ⟨w.heap.size, 0, none⟩) (Nat.le_refl _) _).setCell (p := ⟨w.heap.size, 1, none⟩) (Nat.le_refl _) _
    have hr := Hno.out (.inl hi0) _ hB2
    have hb2 := (hbx.set 0 (.slice none 0 0)).set 1 (.slice none 0 0)
    have hres := runPair hb2.cells
    obtain ⟨x0, x1⟩ := hbx.cells.c2
    have f0 := hbx.free 0
    have f1 := hbx.free 1
    go_wp2_with fail
    exact ret_cell_tmp rfl rfl hres rfl rfl hr
  · by_cases him : (t.many : Int) ≤ i
    · have hB2 : Below w.heap.size w ((w0.setCell ⟨w.heap.size, 0, none⟩ (.slice none 0 0)).setCell ⟨w.heap.size, 1, none⟩ (.slice none 0 0)) := (hBx.setCell (p := ⟨w.heap.size, 0, none⟩) (Nat.le_refl _) _).setCell (p := ⟨w.heap.size, 1, none⟩) (Nat.le_refl _) _
      have hr := Hno.out (.inr him) _ hB2
      have hb2 := (hbx.set 0 (.slice none 0 0)).set 1 (.slice none 0 0)
      have hres := runPair hb2.cells
      obtain ⟨x0, x1⟩ := hbx.cells.c2
      have f0 := hbx.free 0
      have f1 := hbx.free 1
      go_wp2_with fail
      refine many_any _ t _ _ Hn.out _ ?_
      go_wp2_with fail
      exact ret_cell_tmp rfl rfl hres rfl rfl hr
    · obtain ⟨n0, rfl⟩ := Int.eq_ofNat_of_zero_le (Int.not_lt.1 hi0)
      have hn0 : n0 < t.many := by omega
      have hn9 : ¬ (t.many ≤ n0) := by omega
      have hi9 : ¬ ((n0 : Int) < 0) := by omega
      have Hy := Lib.hid (Hyes.out n0 rfl hn0)
      clear Hno Hyes
      go_wp2_with fail
      refine many_any _ t _ _ Hn.out _ ?_
      go_wp2_with fail
      clear hn9 hi9 him hi0
      go_loopg [1, 6] (t.many + 1) (fun g t1 t6 wr => wr = w0 ∧ ∃ (t' : T) (n : Nat), Tn B' w0.heap.size w0 t' t6 ∧ t1 = .int .i64 n ∧ n < t'.many ∧ t'.at n = t.at n0 ∧ t'.many < g ∧ t'.many ≤ 1000000 ∧ (∀ x ∈ t'.toL, x ∈ t.toL))
      case atStart => exact ⟨rfl, t, n0, Hn.out, rfl, hn0, rfl, Nat.lt_succ_self _, hm, fun x hx => hx⟩
      case round =>
        obtain ⟨rfl, t', n, h', rfl, hnm, hat, hmm, hcm, hsub⟩ := hrel
        cases t' with
        | nil => simp [T.many] at hnm
        | node k' v' l r =>
          have h0 := h'
          obtain ⟨b, kv', vv', ql, qr, rfl, hb, hc, hk', hv', hl, hr⟩ := h'.open
          obtain ⟨c0, c1, c2, c3, -, -⟩ := hc.c6
          simp only [T.many] at hmm hcm hnm
          have Hl := Lib.hid hl
          have Hc := Lib.hid hc
          have Hat := Lib.hid hat
          have Hsub := Lib.hid hsub
          have Hk := Lib.hid hk'
          have Hv := Lib.hid hv'
          have hbw : b < w.heap.size := hb.elim (hB1 b) (fun e => absurd e.2 (Nat.not_lt.2 e.1))
          clear hc h' hl h0 hat hsub hk' hv'
          by_cases hnl : n = l.many
          · have e : T.at (.node k' v' l r) n = (k', v') := by simp only [T.at]; rw [if_pos hnl]
            rw [e] at Hat
            have hat2 := Hat.out
            rw [← hat2] at Hy
            have hln := Hlen.out (k', v') (Hsub.out _ (by simp [T.toL]))
            subst hnl
            clear hat2 Hat e Hlen Hsub
            go_wp2_with fail
            refine many_any _ l _ _ Hl.out _ ?_
            go_wp2_with fail
            have hky := By.bytes Hk.out (hi := wr.heap.size) (fun b hb => hb.elim (fun e => by have := hB1 b e; omega) (fun e => e.2))
            have hvy := By.bytes Hv.out (hi := wr.heap.size) (fun b hb => hb.elim (fun e => by have := hB1 b e; omega) (fun e => e.2))
            have Hky := Lib.hid hky
            have Hvy := Lib.hid hvy
            have hbS : ∀ w', Only (· = w.heap.size) wr w' → w'.cell? ⟨b, 0, none⟩ = some kv' ∧ w'.cell? ⟨b, 1, none⟩ = some vv' := fun w' h => ⟨(World.cell?_of_block (h.block b (by omega) (by omega))).trans c0, (World.cell?_of_block (h.block b (by omega) (by omega))).trans c1⟩
            obtain ⟨ak, ck, rfl, -, -, -⟩ := hky.form
            obtain ⟨av, cv, rfl, -, -, -⟩ := hvy.form
            have hd0 : Below wr.heap.size wr wr.drew := Below.drew (Below.refl _ _)
            clear hky hvy c2 c3 c0 c1 Hc Hl hr Hk Hv
            refine wp_region_held_drew (S := fun w' => Only (· = w.heap.size) wr w') (by kernel_rfl) (Only.drew wr) (fun hHeld => ?_)
            refine wpAnyH_take (i := 0) (v := .pointer (some ⟨b, 0, none⟩)) rfl (by kernel_rfl) (by kernel_rfl) (by kernel_rfl) (fun _ _ _ h => h) (Or.inl ⟨by rfl, ?_⟩) hHeld ?_
            · intro w' hSw; go_simp
            try simp only [Act.put, List.getElem_toArray, List.getElem_cons_succ, List.getElem_cons_zero, List.setIfInBounds_toArray, List.set_cons_zero, List.set_cons_succ]
            refine wpAnyH_take (i := 1) (v := .pointer (some ⟨b, 0, none⟩)) rfl (by kernel_rfl) (by kernel_rfl) (by kernel_rfl) (fun _ _ _ h => h) (Or.inl ⟨by rfl, ?_⟩) hHeld ?_
            · intro w' hSw; go_simp
            try simp only [Act.put, List.getElem_toArray, List.getElem_cons_succ, List.getElem_cons_zero, List.setIfInBounds_toArray, List.set_cons_zero, List.set_cons_succ]
            refine wpAnyH_take (i := 2) (v := .pointer (some ⟨b, 0, none⟩)) rfl (by kernel_rfl) (by kernel_rfl) (by kernel_rfl) (fun _ _ _ h => h) (Or.inl ⟨by rfl, ?_⟩) hHeld ?_
            · intro w' hSw; go_simp
            try simp only [Act.put, List.getElem_toArray, List.getElem_cons_succ, List.getElem_cons_zero, List.setIfInBounds_toArray, List.set_cons_zero, List.set_cons_succ]
            refine wpAnyH_take (i := 3) (v := .slice ak k'.length ck) rfl (by kernel_rfl) (by kernel_rfl) (by kernel_rfl) (fun _ _ _ h => h) (Or.inl ⟨by rfl, ?_⟩) hHeld ?_
            · intro w' hSw; have hcc := (hbS w' hSw).1; go_simp
            try simp only [Act.put, List.getElem_toArray, List.getElem_cons_succ, List.getElem_cons_zero, List.setIfInBounds_toArray, List.set_cons_zero, List.set_cons_succ]
            refine wpAnyH_take (i := 5) (v := .pointer (some ⟨b, 0, none⟩)) rfl (by kernel_rfl) (by kernel_rfl) (by kernel_rfl) (fun _ _ _ h => h) (Or.inl ⟨by rfl, ?_⟩) hHeld ?_
            · intro w' hSw; go_simp
            try simp only [Act.put, List.getElem_toArray, List.getElem_cons_succ, List.getElem_cons_zero, List.setIfInBounds_toArray, List.set_cons_zero, List.set_cons_succ]
            refine wpAnyH_take (i := 6) (v := .pointer (some ⟨b, 0, none⟩)) rfl (by kernel_rfl) (by kernel_rfl) (by kernel_rfl) (fun _ _ _ h => h) (Or.inl ⟨by rfl, ?_⟩) hHeld ?_
            · intro w' hSw; go_simp
            try simp only [Act.put, List.getElem_toArray, List.getElem_cons_succ, List.getElem_cons_zero, List.setIfInBounds_toArray, List.set_cons_zero, List.set_cons_succ]
            refine wpAnyH_take (i := 7) (v := .pointer (some ⟨b, 1, none⟩)) rfl (by kernel_rfl) (by kernel_rfl) (by kernel_rfl) (fun _ _ _ h => h) (Or.inl ⟨by rfl, ?_⟩) hHeld ?_
            · intro w' hSw; go_simp
            try simp only [Act.put, List.getElem_toArray, List.getElem_cons_succ, List.getElem_cons_zero, List.setIfInBounds_toArray, List.set_cons_zero, List.set_cons_succ]
            refine wpAnyH_take (i := 8) (v := .slice av v'.length cv) rfl (by kernel_rfl) (by kernel_rfl) (by kernel_rfl) (fun _ _ _ h => h) (Or.inl ⟨by rfl, ?_⟩) hHeld ?_
            · intro w' hSw; have hcc := (hbS w' hSw).2; go_simp
            try simp only [Act.put, List.getElem_toArray, List.getElem_cons_succ, List.getElem_cons_zero, List.setIfInBounds_toArray, List.set_cons_zero, List.set_cons_succ]
            refine wpAnyH_ready (rs := [4]) (by kernel_rfl) (by simp) ?_
            refine allCall (f := 34) (args := #[.slice ak k'.length ck]) rfl (by kernel_rfl) ?_ ?_ AllReadyH.nil
            · kernel_rfl
            · refine Clone_any wr.heap.size 0 wr.heap.size k' _ wr.drew (Hky.out.below (flat_loc _) hd0 (Nat.le_refl _)) (Nat.le_refl _) (Nat.le_refl _) hln.1 _ (fun w1 k1 hB1 ho1 => ?_)
              refine ⟨_, rfl, Below.only (hd0.trans hB1), ?_⟩
              try simp only [Act.put, List.getElem_toArray, List.getElem_cons_succ, List.getElem_cons_zero, List.setIfInBounds_toArray, List.set_cons_zero, List.set_cons_succ]
              refine wpAnyH_ready (rs := [9]) (by kernel_rfl) (by simp) ?_
              refine allCall (f := 34) (args := #[.slice av v'.length cv]) rfl (by kernel_rfl) ?_ ?_ AllReadyH.nil
              · kernel_rfl
              · refine Clone_any w1.heap.size 0 wr.heap.size v' _ w1 (Hvy.out.below (flat_loc _) (hd0.trans hB1) (Nat.le_refl _)) (Nat.le_refl _) hB1.size hln.2 _ (fun w2 v1 hB2 ho2 => ?_)
                refine ⟨_, rfl, Below.only (hd0.trans (hB1.trans (hB2.mono hB1.size))), ?_⟩
                try simp only [Act.put, List.getElem_toArray, List.getElem_cons_succ, List.getElem_cons_zero, List.setIfInBounds_toArray, List.set_cons_zero, List.set_cons_succ]
                have ho1k := ho1
                have ho1 := Own.kept ho1 hB2
                obtain ⟨a1, c1, rfl, -, -, -⟩ := (OwnB.bytes ho1).form
                obtain ⟨a2, c2, rfl, -, -, -⟩ := (OwnB.bytes ho2).form
                have hB02 := hd0.trans (hB1.trans (hB2.mono hB1.size))
                have hs1 : wr.heap.size ≤ w1.heap.size := hB1.size
                have hap : ∀ g, Value.ownBlock (.slice a1 k'.length c1) = some g → Value.ownBlock (.slice a2 v'.length c2) ≠ some g := fun g e1 e2 => by
                  have h1 := (ho1k.lt g e1).2
                  have h2 := (ho2.lt g e2).1
                  omega
                have hne1 : ∀ p : Addr, p.block = w.heap.size → Value.ownBlock (.slice a1 k'.length c1) ≠ some p.block := fun p hp e => by
                  have h1 := (ho1.lt _ e).1
                  omega
                have hne2 : ∀ p : Addr, p.block = w.heap.size → Value.ownBlock (.slice a2 v'.length c2) ≠ some p.block := fun p hp e => by
                  have h1 := (ho2.lt _ e).1
                  omega
                have hbx2 := hbx.below hB02 (by omega)
                obtain ⟨x0, x1⟩ := hbx2.cells.c2
                have f0 := hbx2.free 0
                have f1 := hbx2.free 1
                have hbx3 := (hbx2.set 0 (.slice a1 k'.length c1)).set 1 (.slice a2 v'.length c2)
                have hres := runPair hbx3.cells
                have hB3 : Below w.heap.size w ((w2.setCell ⟨w.heap.size, 0, none⟩ (.slice a1 k'.length c1)).setCell ⟨w.heap.size, 1, none⟩ (.slice a2 v'.length c2)) := ((hBx.trans (hB02.mono (by omega))).setCell (p := ⟨w.heap.size, 0, none⟩) (Nat.le_refl _) _).setCell (p := ⟨w.heap.size, 1, none⟩) (Nat.le_refl _) _
                have hB4 : Below wr.heap.size wr w2 := hB02
                have hr := Hy.out _ _ _ hB3 (OwnB.mono ((ho1.setOther (hne1 ⟨w.heap.size, 0, none⟩ rfl) _).setOther (hne1 ⟨w.heap.size, 1, none⟩ rfl) _) (by omega)) (OwnB.mono ((ho2.setOther (hne2 ⟨w.heap.size, 0, none⟩ rfl) _).setOther (hne2 ⟨w.heap.size, 1, none⟩ rfl) _) (by omega)) hap
                have hHeld : Only (· = w.heap.size) wr w2 := Below.only hB02
                have hB5 : Only (· = w.heap.size) wr ((w2.setCell ⟨w.heap.size, 0, none⟩ (.slice a1 k'.length c1)).setCell ⟨w.heap.size, 1, none⟩ (.slice a2 v'.length c2)) := (hHeld.trans (Only.setCell (A := (· = w.heap.size)) w2 (p := ⟨w.heap.size, 0, none⟩) rfl _)).trans (Only.setCell (A := (· = w.heap.size)) _ (p := ⟨w.heap.size, 1, none⟩) rfl _)
                clear ho1 ho2 ho1k hap hne1 hne2 hB3 hbx3 hbx2
                refine wpAnyH_take (i := 10) (v := .agg #[.slice a1 k'.length c1, .slice a2 v'.length c2]) rfl (by kernel_rfl) (by kernel_rfl) (by kernel_rfl) (fun _ _ _ h => h) (Or.inl ⟨by rfl, ?_⟩) hHeld ?_
                · intro w' hSw; go_simp
                try simp only [Act.put, List.getElem_toArray, List.getElem_cons_succ, List.getElem_cons_zero, List.setIfInBounds_toArray, List.set_cons_zero, List.set_cons_succ]
                refine wpAnyH_ready (rs := [11]) (by kernel_rfl) (by simp) ?_
                refine allSkip (w' := (w2.setCell ⟨w.heap.size, 0, none⟩ (.slice a1 k'.length c1)).setCell ⟨w.heap.size, 1, none⟩ (.slice a2 v'.length c2)) rfl (by kernel_rfl) ?_ hB5 ?_ AllReadyH.nil
                · go_simp
                try simp only [Act.put, List.getElem_toArray, List.getElem_cons_succ, List.getElem_cons_zero, List.setIfInBounds_toArray, List.set_cons_zero, List.set_cons_succ]
                refine wpAnyH_ready (rs := [12]) (by kernel_rfl) (by simp) ?_
                refine allVal (v := .bool true) (w' := (w2.setCell ⟨w.heap.size, 0, none⟩ (.slice a1 k'.length c1)).setCell ⟨w.heap.size, 1, none⟩ (.slice a2 v'.length c2)) rfl (by kernel_rfl) ?_ hB5 ?_ AllReadyH.nil
                · go_simp
                try simp only [Act.put, List.getElem_toArray, List.getElem_cons_succ, List.getElem_cons_zero, List.setIfInBounds_toArray, List.set_cons_zero, List.set_cons_succ]
                refine wpAnyH_done (by kernel_rfl) ?_ _
                go_wp2_with fail
                exact ret_cell_tmp rfl rfl hres rfl rfl hr

          · by_cases hnl2 : n < l.many
            · have e : T.at (.node k' v' l r) n = l.at n := by simp only [T.at]; rw [if_neg hnl, if_pos hnl2]
              have Hat2 : Hid (l.at n = t.at n0) := Lib.hid (by rw [← Hat.out, e])
              have Hs2 : Hid (∀ x ∈ l.toL, x ∈ t.toL) := Lib.hid (fun x hx => Hsub.out x (by simp [T.toL, hx]))
              have hz : ¬ ((n : Int) = (l.many : Int)) := by omega
              have hz2 : (n : Int) < (l.many : Int) := by omega
              go_wp2_with fail
              refine many_any _ l _ _ Hl.out _ ?_
              go_wp2_with fail
              refine many_any _ l _ _ Hl.out _ ?_
              go_wp2_with fail
              go_roundg (gk - 1)
              case measure => omega
              case rel => exact ⟨rfl, l, n, Hl.out, rfl, hnl2, Hat2.out, by omega, by omega, Hs2.out⟩
            · obtain ⟨j, rfl⟩ : ∃ j, n = l.many + 1 + j := ⟨n - (l.many + 1), by omega⟩
              have e : T.at (.node k' v' l r) (l.many + 1 + j) = r.at j := by
                simp only [T.at]
                rw [if_neg hnl, if_neg hnl2, show l.many + 1 + j - (l.many + 1) = j by omega]
              have Hat2 : Hid (r.at j = t.at n0) := Lib.hid (by rw [← Hat.out, e])
              have Hs2 : Hid (∀ x ∈ r.toL, x ∈ t.toL) := Lib.hid (fun x hx => Hsub.out x (by simp [T.toL, hx]))
              have hz : ¬ (((l.many + 1 + j : Nat) : Int) = (l.many : Int)) := by omega
              have hz2 : ¬ (((l.many + 1 + j : Nat) : Int) < (l.many : Int)) := by omega
              have w1 : IntKind.i64.wrap ((l.many : Int) + 1) = (l.many : Int) + 1 := wrap_ok (by omega) (by omega)
              have w2 : ((l.many + 1 + j : Nat) : Int) - ((l.many : Int) + 1) = (j : Int) := by omega
              have w3 : IntKind.i64.wrap (j : Int) = (j : Int) := wrap_ok (by omega) (by omega)
              generalize hcast : ((l.many + 1 + j : Nat) : Int) = z at *
              go_wp2_with fail
              refine many_any _ l _ _ Hl.out _ ?_
              go_wp2_with fail
              refine many_any _ l _ _ Hl.out _ ?_
              go_wp2_with fail
              refine many_any _ l _ _ Hl.out _ ?_
              go_wp2_with fail
              go_roundg (gk - 1)
              case measure => omega
              case rel => exact ⟨rfl, r, j, hr, rfl, by omega, Hat2.out, by omega, by omega, Hs2.out⟩

set_option maxRecDepth 100000 in
set_option maxHeartbeats 8000000 in
theorem Seek_any (B : Nat → Prop) (lo klo khi : Nat) (t : T) (k : List UInt8) (p kv : Value) (w : World) (hB : ∀ b, B b → b < lo) (hlo : lo ≤ w.heap.size) (ht : Tr B lo w t p) (hk : Bytes klo khi w kv k) (hkhi : khi ≤ w.heap.size) (hm : t.many ≤ 1000000) (hlen : ∀ x ∈ t.toL, x.1.length ≤ 100000000 ∧ x.2.length ≤ 100000000)
    (R : Ending → World → Prop) (hno : ((t.rank k : Int) < 0 ∨ (t.many : Int) ≤ (t.rank k : Int)) → ∀ w', Below w.heap.size w w' → R (.returned (.tuple #[.agg #[.slice none 0 0, .slice none 0 0], .bool false])) w')
    (hyes : ∀ n : Nat, (t.rank k : Int) = n → n < t.many → ∀ w' k2 v2, Below w.heap.size w w' → OwnB w.heap.size w' k2 (t.at n).1 → OwnB w.heap.size w' v2 (t.at n).2 → (∀ g, k2.ownBlock = some g → v2.ownBlock ≠ some g) → R (.returned (.tuple #[.agg #[k2, v2], .bool true])) w') :
    Calls Try.prog 17 #[p, kv] w R := by
  have Hno := Lib.hid hno
  have Hyes := Lib.hid hyes
  have Hlen := Lib.hid hlen
  clear hno hyes hlen
  have hBx : Below w.heap.size w (w.alloc (.cells #[.slice none 0 0, .slice none 0 0] 43)) := (Below.refl _ _).alloc (Nat.le_refl _) _
  have hbx : Blk (w.alloc (.cells #[.slice none 0 0, .slice none 0 0] 43)) w.heap.size [.slice none 0 0, .slice none 0 0] 43 := Blk.new w _ 43 rfl
  have hsx : (w.alloc (.cells #[.slice none 0 0, .slice none 0 0] 43)).heap.size = w.heap.size + 1 := by simp
  have htx := Tr.step ht hB hlo hBx
  have Hk := Lib.hid (hk.below (flat_loc _) hBx hkhi)
  obtain ⟨p0, rfl⟩ : ∃ p0, p = .pointer p0 := by
    rcases ht with ⟨e, -⟩ | ⟨_, _, e, -⟩ <;> exact ⟨_, e⟩
  obtain ⟨ak, ck, rfl, -, -, -⟩ := hk.form
  clear ht hk
  have hle := t.rank_le k
  go_enter Try.func17, Try.ntmps17
  go_wp2_with fail
  generalize hW0 : w.alloc (.cells #[.slice none 0 0, .slice none 0 0] 43) = w0 at *
  clear hW0
  have hlo0 : lo ≤ w0.heap.size := by omega
  refine Rank_any B lo klo khi t k (.pointer p0) _ w0 htx Hk.out hm _ ?_
  go_wp2_with fail
  refine At_any B lo t (t.rank k : Int) (.pointer p0) w0 hB hlo0 htx hm Hlen.out _ (fun hno w1 hB1 => ?_) (fun n en hn w1 k2 v2 hB1 ho1 ho2 hap => ?_)
  · have hbx2 := hbx.below hB1 (by omega)
    have hb2 := (hbx2.set 0 (.slice none 0 0)).set 1 (.slice none 0 0)
    have hres := runPair hb2.cells
    obtain ⟨x0, x1⟩ := hbx2.cells.c2
    have f0 := hbx2.free 0
    have f1 := hbx2.free 1
    have hr := Hno.out hno _ (((hBx.trans (hB1.mono (by omega))).setCell (p := ⟨w.heap.size, 0, none⟩) (Nat.le_refl _) (.slice none 0 0)).setCell (p := ⟨w.heap.size, 1, none⟩) (Nat.le_refl _) (.slice none 0 0))
    clear hb2 hbx2 Hno Hyes hno hle
    go_wp2_with fail
    exact ret_cell_tmp rfl rfl hres rfl rfl hr
  · obtain ⟨a1, c1, rfl, -, -, -⟩ := (OwnB.bytes ho1).form
    obtain ⟨a2, c2, rfl, -, -, -⟩ := (OwnB.bytes ho2).form
    have hne1 : ∀ p : Addr, p.block = w.heap.size → Value.ownBlock (.slice a1 (t.at n).1.length c1) ≠ some p.block := fun p hp e => by
      have h1 := (ho1.lt _ e).1
      omega
    have hne2 : ∀ p : Addr, p.block = w.heap.size → Value.ownBlock (.slice a2 (t.at n).2.length c2) ≠ some p.block := fun p hp e => by
      have h1 := (ho2.lt _ e).1
      omega
    have hbx2 := hbx.below hB1 (by omega)
    have hb2 := (hbx2.set 0 (.slice a1 (t.at n).1.length c1)).set 1 (.slice a2 (t.at n).2.length c2)
    have hres := runPair hb2.cells
    obtain ⟨x0, x1⟩ := hbx2.cells.c2
    have f0 := hbx2.free 0
    have f1 := hbx2.free 1
    have hr := Hyes.out n en hn _ _ _ (((hBx.trans (hB1.mono (by omega))).setCell (p := ⟨w.heap.size, 0, none⟩) (Nat.le_refl _) (.slice a1 (t.at n).1.length c1)).setCell (p := ⟨w.heap.size, 1, none⟩) (Nat.le_refl _) (.slice a2 (t.at n).2.length c2))
      (OwnB.mono ((ho1.setOther (hne1 ⟨w.heap.size, 0, none⟩ rfl) _).setOther (hne1 ⟨w.heap.size, 1, none⟩ rfl) _) (by omega)) (OwnB.mono ((ho2.setOther (hne2 ⟨w.heap.size, 0, none⟩ rfl) _).setOther (hne2 ⟨w.heap.size, 1, none⟩ rfl) _) (by omega)) hap
    clear hb2 hbx2 Hno Hyes ho1 ho2 hne1 hne2 hap en hn hle
    go_wp2_with fail
    exact ret_cell_tmp rfl rfl hres rfl rfl hr

set_option maxRecDepth 100000 in
set_option maxHeartbeats 8000000 in
theorem Back_any (B : Nat → Prop) (lo klo khi : Nat) (t : T) (k : List UInt8) (p kv : Value) (w : World) (hB : ∀ b, B b → b < lo) (hlo : lo ≤ w.heap.size) (ht : Tr B lo w t p) (hk : Bytes klo khi w kv k) (hkhi : khi ≤ w.heap.size) (hm : t.many ≤ 1000000) (hlen : ∀ x ∈ t.toL, x.1.length ≤ 100000000 ∧ x.2.length ≤ 100000000)
    (R : Ending → World → Prop) (hno : (((t.rank k : Int) - 1) < 0 ∨ (t.many : Int) ≤ ((t.rank k : Int) - 1)) → ∀ w', Below w.heap.size w w' → R (.returned (.tuple #[.agg #[.slice none 0 0, .slice none 0 0], .bool false])) w')
    (hyes : ∀ n : Nat, ((t.rank k : Int) - 1) = n → n < t.many → ∀ w' k2 v2, Below w.heap.size w w' → OwnB w.heap.size w' k2 (t.at n).1 → OwnB w.heap.size w' v2 (t.at n).2 → (∀ g, k2.ownBlock = some g → v2.ownBlock ≠ some g) → R (.returned (.tuple #[.agg #[k2, v2], .bool true])) w') :
    Calls Try.prog 18 #[p, kv] w R := by
  have Hno := Lib.hid hno
  have Hyes := Lib.hid hyes
  have Hlen := Lib.hid hlen
  clear hno hyes hlen
  have hBx : Below w.heap.size w (w.alloc (.cells #[.slice none 0 0, .slice none 0 0] 43)) := (Below.refl _ _).alloc (Nat.le_refl _) _
  have hbx : Blk (w.alloc (.cells #[.slice none 0 0, .slice none 0 0] 43)) w.heap.size [.slice none 0 0, .slice none 0 0] 43 := Blk.new w _ 43 rfl
  have hsx : (w.alloc (.cells #[.slice none 0 0, .slice none 0 0] 43)).heap.size = w.heap.size + 1 := by simp
  have htx := Tr.step ht hB hlo hBx
  have Hk := Lib.hid (hk.below (flat_loc _) hBx hkhi)
  obtain ⟨p0, rfl⟩ : ∃ p0, p = .pointer p0 := by
    rcases ht with ⟨e, -⟩ | ⟨_, _, e, -⟩ <;> exact ⟨_, e⟩
  obtain ⟨ak, ck, rfl, -, -, -⟩ := hk.form
  clear ht hk
  have hle := t.rank_le k
  go_enter Try.func18, Try.ntmps18
  go_wp2_with fail
  generalize hW0 : w.alloc (.cells #[.slice none 0 0, .slice none 0 0] 43) = w0 at *
  clear hW0
  have hlo0 : lo ≤ w0.heap.size := by omega
  refine Rank_any B lo klo khi t k (.pointer p0) _ w0 htx Hk.out hm _ ?_
  have hwr : IntKind.i64.wrap ((t.rank k : Int) - 1) = (t.rank k : Int) - 1 := by
    by_cases h0 : t.rank k = 0
    · rw [h0]; rfl
    · exact wrap_ok (by omega) (by omega)
  go_wp2_with fail
  refine At_any B lo t ((t.rank k : Int) - 1) (.pointer p0) w0 hB hlo0 htx hm Hlen.out _ (fun hno w1 hB1 => ?_) (fun n en hn w1 k2 v2 hB1 ho1 ho2 hap => ?_)
  · have hbx2 := hbx.below hB1 (by omega)
    have hb2 := (hbx2.set 0 (.slice none 0 0)).set 1 (.slice none 0 0)
    have hres := runPair hb2.cells
    obtain ⟨x0, x1⟩ := hbx2.cells.c2
    have f0 := hbx2.free 0
    have f1 := hbx2.free 1
    have hr := Hno.out hno _ (((hBx.trans (hB1.mono (by omega))).setCell (p := ⟨w.heap.size, 0, none⟩) (Nat.le_refl _) (.slice none 0 0)).setCell (p := ⟨w.heap.size, 1, none⟩) (Nat.le_refl _) (.slice none 0 0))
    clear hb2 hbx2 Hno Hyes hno hwr hle
    go_wp2_with fail
    exact ret_cell_tmp rfl rfl hres rfl rfl hr
  · obtain ⟨a1, c1, rfl, -, -, -⟩ := (OwnB.bytes ho1).form
    obtain ⟨a2, c2, rfl, -, -, -⟩ := (OwnB.bytes ho2).form
    have hne1 : ∀ p : Addr, p.block = w.heap.size → Value.ownBlock (.slice a1 (t.at n).1.length c1) ≠ some p.block := fun p hp e => by
      have h1 := (ho1.lt _ e).1
      omega
    have hne2 : ∀ p : Addr, p.block = w.heap.size → Value.ownBlock (.slice a2 (t.at n).2.length c2) ≠ some p.block := fun p hp e => by
      have h1 := (ho2.lt _ e).1
      omega
    have hbx2 := hbx.below hB1 (by omega)
    have hb2 := (hbx2.set 0 (.slice a1 (t.at n).1.length c1)).set 1 (.slice a2 (t.at n).2.length c2)
    have hres := runPair hb2.cells
    obtain ⟨x0, x1⟩ := hbx2.cells.c2
    have f0 := hbx2.free 0
    have f1 := hbx2.free 1
    have hr := Hyes.out n en hn _ _ _ (((hBx.trans (hB1.mono (by omega))).setCell (p := ⟨w.heap.size, 0, none⟩) (Nat.le_refl _) (.slice a1 (t.at n).1.length c1)).setCell (p := ⟨w.heap.size, 1, none⟩) (Nat.le_refl _) (.slice a2 (t.at n).2.length c2))
      (OwnB.mono ((ho1.setOther (hne1 ⟨w.heap.size, 0, none⟩ rfl) _).setOther (hne1 ⟨w.heap.size, 1, none⟩ rfl) _) (by omega)) (OwnB.mono ((ho2.setOther (hne2 ⟨w.heap.size, 0, none⟩ rfl) _).setOther (hne2 ⟨w.heap.size, 1, none⟩ rfl) _) (by omega)) hap
    clear hb2 hbx2 Hno Hyes ho1 ho2 hne1 hne2 hap en hn hwr hle
    go_wp2_with fail
    exact ret_cell_tmp rfl rfl hres rfl rfl hr
end Go.Proofs.Ytmlcnfomiemdpaa
