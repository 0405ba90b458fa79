/- Trees: the least pair taken out; a tree without a key. -/
import Derived.Test.YtmlcnfomiemdpaaTreeG
import Derived.Test.YtmlcnfomiemdpaaTreeC
namespace Go.Proofs.Ytmlcnfomiemdpaa
open Go.RowKit
attribute [local go_sem ↓] Go.wp_at_zero Go.wp_at_succ
set_option linter.unusedVariables false
set_option linter.unusedSimpArgs false

theorem Tn.some {B : Nat → Prop} {lo : Nat} {w : World} {k v : List UInt8} {l r : T} {p : Value} (h : Tn B lo w (.node k v l r) p) : ∃ b, p = .pointer (some ⟨b, 0, none⟩) := by
  obtain ⟨b, -, -, -, -, e, -⟩ := h
  exact ⟨b, e⟩
set_option maxRecDepth 100000 in
set_option maxHeartbeats 4000000 in
theorem least_any (B : Nat → Prop) (lo : Nat) (hB : ∀ b, B b → b < lo) : ∀ (t : T) (k v : List UInt8) (l r : T) (p : Value) (w : World) (he : t = .node k v l r) (hlo : lo ≤ w.heap.size) (ht : Tn B lo w t p) (hm : t.many ≤ 10000000000)
    (R : Ending → World → Prop) (hR : ∀ w' q1 q2 x y, Below w.heap.size w w' → lo ≤ w'.heap.size → Tn B lo w' (.node t.fst.1 t.fst.2 x y) (.pointer q1) → Tn B lo w' t.rest (.pointer q2) → R (.returned (.tuple #[.pointer q1, .pointer q2])) w'), Calls Try.prog 48 #[p] w R := by
  intro t
  induction t with
  | nil => intro k v l r p w he; cases he
  | node k' v' l' r' ihl ihr =>
    intro k v l r p w he hlo ht hm R hR
    cases he
    have h0 := ht
    obtain ⟨b, kv', vv', ql, qr, rfl, hb, hc, -, -, hl, hr⟩ := ht.open
    obtain ⟨-, -, c2, c3, -, -⟩ := hc.c6
    have hbw := Xs.lt hB hlo hb
    have HR := Lib.hid hR
    have H0 := Lib.hid h0
    clear hc hR h0 ht
    cases l' with
    | nil =>
      cases hl
      have hr2 := fun q => HR.out (w.drewN q) (some ⟨b, 0, none⟩) qr .nil r' (drewN (Below.refl _ _) q) hlo (Tn.dn H0.out q) (Tn.dn hr q)
      have HR2 := Lib.hid hr2
      clear hr2
      go_enter Try.func48, Try.ntmps48
      go_wp2_with fail
      go_quiet (fail)
      go_wp2_with fail
      exact fin (HR2.out _) rfl
    | node a b' c d =>
      obtain ⟨b1, e1⟩ := Tn.some hl
      injection e1 with e1
      subst e1
      have ml : (T.node a b' c d).many ≤ 10000000000 := by simp only [T.many] at hm ⊢; omega
      have mr : (T.rest (.node a b' c d)).many + r'.many ≤ 100000000000 := by rw [T.rest_many]; simp only [T.many] at hm; omega
      go_enter Try.func48, Try.ntmps48
      go_wp2_with fail
      refine ihl a b' c d _ w rfl hlo hl ml _ (fun w1 q1 q2 x y hB1 hlo1 h1 h2 => ?_)
      have c3' := (World.cell?_of_block (hB1.block b hbw)).trans c3
      go_wp2_with fail
      refine level_any B lo k' v' (T.node a b' c d) r' (T.rest (.node a b' c d)) r' _ _ _ w1 hB hlo1 (Tn.step H0.out hB hlo hB1) h2 (Tn.step hr hB hlo hB1) mr _ (fun w2 p2 hB2 h3 => ?_)
      obtain ⟨q3, rfl⟩ := Nd.ptr h3
      have hr2 := HR.out w2 q1 q3 x y (hB1.trans (hB2.mono hB1.size)) (Nat.le_trans hlo1 hB2.size) (Tn.step h1 hB hlo1 hB2) h3
      go_wp2_with fail
      first | exact hr2 | exact fin hr2 rfl

set_option maxRecDepth 100000 in
set_option maxHeartbeats 8000000 in
theorem cut_any (B : Nat → Prop) (lo : Nat) (k : List UInt8) (hB : ∀ b, B b → b < lo) : ∀ (t : T) (p kv : Value) (klo khi : Nat) (w : World) (hlo : lo ≤ w.heap.size) (ht : Tn B lo w t p) (hk : Bytes klo khi w kv k) (hkh : khi ≤ w.heap.size) (hm : t.many ≤ 10000000000)
    (R : Ending → World → Prop) (hR : ∀ w' q, Below w.heap.size w w' → lo ≤ w'.heap.size → Tn B lo w' (t.cut k) (.pointer q) → R (.returned (.pointer q)) w'), Calls Try.prog 39 #[p, kv] w R := by
  intro t
  induction t with
  | nil =>
    intro p kv klo khi w hlo ht hk hkh hm R hR
    cases ht
    have hr := hR w none (Below.refl _ _) hlo rfl
    go_enter Try.func39, Try.ntmps39
    go_wp2_with fail
    first | exact hr | exact fin hr rfl
  | node k' v' l r ihl ihr =>
    intro p kv klo khi w hlo ht hk hkh hm R hR
    have h0 := ht
    obtain ⟨b, kv', vv', ql, qr, rfl, hb, hc, hk', -, hl, hr⟩ := ht.open
    obtain ⟨c0, -, c2, c3, -, -⟩ := hc.c6
    have hbw := Xs.lt hB hlo hb
    obtain ⟨kb, -, hk''⟩ := hk'
    have hbc := fun R hR => bytes_Compare w hk hk'' R hR
    have Hb := Lib.hid hbc
    have Hk := Lib.hid hk
    obtain ⟨ak', ck', rfl, -, -, -⟩ := hk''.form
    obtain ⟨ak, ck, rfl, -, -, -⟩ := hk.form
    have pl := l.cut_many k
    have pr := r.cut_many k
    have ml : l.many ≤ 10000000000 := by simp only [T.many] at hm; omega
    have mr : r.many ≤ 10000000000 := by simp only [T.many] at hm; omega
    have ml' : (l.cut k).many + r.many ≤ 100000000000 := by omega
    have mr' : l.many + (r.cut k).many ≤ 100000000000 := by omega
    have hkeep : ∀ w', Below w.heap.size w w' → (Below w.heap.size w w' ∧ w'.cell? ⟨b, 2, none⟩ = some (.pointer ql) ∧ w'.cell? ⟨b, 3, none⟩ = some (.pointer qr)) := fun w' h => ⟨h, by rw [World.cell?_of_block (h.block b hbw)]; exact c2, by rw [World.cell?_of_block (h.block b hbw)]; exact c3⟩
    clear hc hk'' hbc hk pl pr
    go_enter Try.func39, Try.ntmps39
    go_wp2_with fail
    refine Hb.out _ ?_
    by_cases hlt : Lib.compareBytes k k' < 0
    · have e : T.cut k (.node k' v' l r) = T.level k' v' (l.cut k) r := by simp only [T.cut]; rw [if_pos hlt]
      rw [e] at hR
      generalize Lib.compareBytes k k' = c at *
      go_wp2_with fail
      go_region_held3 (fun w' => Below w.heap.size w w' ∧ w'.cell? ⟨b, 2, none⟩ = some (.pointer ql) ∧ w'.cell? ⟨b, 3, none⟩ = some (.pointer qr))
        ((apply hkeep; first | exact stepS (by assumption) (by assumption) | (repeat (first | exact Below.refl _ _ | apply drewN | apply Below.drew))))
        (first
          | (go_at_call_of 39 (Value.pointer ql)
             refine Calls.mono (ihl _ _ klo khi _ (szS hlo (by assumption)) (Tn.s hl hB hlo (by assumption)) (Sl.below Hk.out (flat_loc _) (And.left (by assumption)) hkh) (szS hkh (by assumption)) ml (fun e w' => ∃ q, e = .returned (.pointer q) ∧ Below _ _ w' ∧ lo ≤ w'.heap.size ∧ Tn B lo w' (l.cut k) (.pointer q)) (fun w' q k1 k2 k3 => ⟨q, rfl, k1, k2, k3⟩)) ?_
             rintro e w' ⟨q1, rfl, hb', hsz, ht'⟩)
          | (go_at_call_of 44 (Value.pointer qr)
             refine (level_c B lo k' v' l r (l.cut k) r _ _ _ _ hB (szS hlo (by assumption)) (Tn.s h0 hB hlo (by assumption)) (by assumption) (Tn.s hr hB hlo (by assumption)) ml').mono ?_
             rintro e w' ⟨q, rfl, hb', ht', hsz⟩))
      all_goals go_wp2_with fail
      all_goals first | exact fin (hR _ _ (And.left (by assumption)) (by assumption) (by assumption)) rfl
    · by_cases hgt : 0 < Lib.compareBytes k k'
      · have e : T.cut k (.node k' v' l r) = T.level k' v' l (r.cut k) := by simp only [T.cut]; rw [if_neg hlt, if_pos hgt]
        rw [e] at hR
        generalize Lib.compareBytes k k' = c at *
        go_wp2_with fail
        go_region_held3 (fun w' => Below w.heap.size w w' ∧ w'.cell? ⟨b, 2, none⟩ = some (.pointer ql) ∧ w'.cell? ⟨b, 3, none⟩ = some (.pointer qr))
          ((apply hkeep; first | exact stepS (by assumption) (by assumption) | (repeat (first | exact Below.refl _ _ | apply drewN | apply Below.drew))))
          (first
            | (go_at_call_of 39 (Value.pointer qr)
               refine Calls.mono (ihr _ _ klo khi _ (szS hlo (by assumption)) (Tn.s hr hB hlo (by assumption)) (Sl.below Hk.out (flat_loc _) (And.left (by assumption)) hkh) (szS hkh (by assumption)) mr (fun e w' => ∃ q, e = .returned (.pointer q) ∧ Below _ _ w' ∧ lo ≤ w'.heap.size ∧ Tn B lo w' (r.cut k) (.pointer q)) (fun w' q k1 k2 k3 => ⟨q, rfl, k1, k2, k3⟩)) ?_
               rintro e w' ⟨q1, rfl, hb', hsz, ht'⟩)
            | (go_at_call_of 44 (Value.pointer ql)
               refine (level_c B lo k' v' l r l (r.cut k) _ _ _ _ hB (szS hlo (by assumption)) (Tn.s h0 hB hlo (by assumption)) (Tn.s hl hB hlo (by assumption)) (by assumption) mr').mono ?_
               rintro e w' ⟨q, rfl, hb', ht', hsz⟩))
        all_goals go_wp2_with fail
        all_goals first | exact fin (hR _ _ (And.left (by assumption)) (by assumption) (by assumption)) rfl
      · have hR2 : ∀ w' q, Below w.heap.size w w' → lo ≤ w'.heap.size → Tn B lo w' (match l, r with
          | .nil, r => r
          | l, .nil => l
          | l, .node a b c d => T.level (T.fst (.node a b c d)).1 (T.fst (.node a b c d)).2 l (T.rest (.node a b c d))) (.pointer q) → R (.returned (.pointer q)) w' := fun w' q h1 h2 h3 => hR w' q h1 h2 (by simp only [T.cut]; rw [if_neg hlt, if_neg hgt]; exact h3)
        have HR2 := Lib.hid hR2
        clear hR hR2
        generalize Lib.compareBytes k k' = c at *
        cases l with
        | nil =>
          cases hl
          have hr2 := HR2.out w qr (Below.refl _ _) hlo hr
          go_wp2_with fail
          first | exact hr2 | exact fin hr2 rfl
        | node la lb lc ld =>
          obtain ⟨b1, e1⟩ := Tn.some hl
          injection e1 with e1
          subst e1
          cases r with
          | nil =>
            cases hr
            have hr2 := HR2.out w _ (Below.refl _ _) hlo hl
            go_wp2_with fail
            first | exact hr2 | exact fin hr2 rfl
          | node ra rb rc rd =>
            obtain ⟨b2, e2⟩ := Tn.some hr
            injection e2 with e2
            subst e2
            have mm : (T.node la lb lc ld).many + (T.rest (.node ra rb rc rd)).many ≤ 100000000000 := by rw [T.rest_many]; simp only [T.many] at ml mr ⊢; omega
            go_wp2_with fail
            refine least_any B lo hB (.node ra rb rc rd) ra rb rc rd _ w rfl hlo hr mr _ (fun w1 q1 q2 x y hB1 hlo1 h1 h2 => ?_)
            have c2' := (World.cell?_of_block (hB1.block b hbw)).trans c2
            have hl1 := Tn.step hl hB hlo hB1
            go_wp2_with fail
            refine level_any B lo _ _ x y (T.node la lb lc ld) (T.rest (.node ra rb rc rd)) _ _ _ w1 hB hlo1 h1 hl1 h2 mm _ (fun w2 p2 hB2 h3 => ?_)
            obtain ⟨q3, rfl⟩ := Nd.ptr h3
            have hr2 := HR2.out w2 q3 (hB1.trans (hB2.mono hB1.size)) (Nat.le_trans hlo1 hB2.size) h3
            go_wp2_with fail
            first | exact hr2 | exact fin hr2 rfl
end Go.Proofs.Ytmlcnfomiemdpaa
