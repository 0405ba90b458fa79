/- Trees: level, the other side. -/
import Derived.Test.YtmlcnfomiemdpaaTreeL
namespace Go.Proofs.Ytmlcnfomiemdpaa
open Go.RowKit
attribute [local go_sem ↓] Go.wp_at_zero Go.wp_at_succ

set_option maxRecDepth 100000 in
set_option maxHeartbeats 4000000 in
theorem level_right (B : Nat → Prop) (lo : Nat) (k v : List UInt8) (x y l r : T) (p pl pr : Value) (w : World) (hB : ∀ b, B b → b < lo) (hlo : lo ≤ w.heap.size) (hn : Tn B lo w (.node k v x y) p) (hl : Tn B lo w l pl) (hr : Tn B lo w r pr) (hm : l.many + r.many ≤ 100000000000)
    (hlt : l.deep + 1 < r.deep)
    (R : Ending → World → Prop) (hR : ∀ w' p', Below w.heap.size w w' → Tn B lo w' (T.level k v l r) p' → R (.returned p') w') : Calls Try.prog 44 #[p, pl, pr] w R := by
  obtain ⟨rk, rv, rl, rr, rfl⟩ := T.deep_pos (show 0 < r.deep by omega)
  obtain ⟨qn, rfl⟩ := Nd.ptr hn
  obtain ⟨ql, rfl⟩ := Nd.ptr hl
  have hr0 := hr
  obtain ⟨b, kv, vv, qrl, qrr, rfl, hb, hc, -, -, hrl, hrr⟩ := hr.open
  obtain ⟨-, -, c2, c3, c4, -⟩ := hc.c6
  have hbw := Xs.lt hB hlo hb
  have d1 := (T.node rk rv rl rr).deep_le
  have m1 : (T.node rk rv rl rr).deep ≤ 100000000000 := by omega
  have m2 : l.deep ≤ 100000000000 := by omega
  have hm2 : rl.many + rr.many + l.many + 1 ≤ 100000000000 := by simp only [T.many] at hm; omega
  clear d1
  by_cases hd : rl.deep ≤ rr.deep
  · have e : T.level k v l (.node rk rv rl rr) = .node rk rv (.node k v l rl) rr := by simp only [T.level]; rw [if_neg (by omega), if_pos hlt, if_pos hd]
    rw [e] at hR
    have hkeep : ∀ w', Below w.heap.size w w' → (Below w.heap.size w w' ∧ w'.cell? ⟨b, 2, none⟩ = some (.pointer qrl) ∧ w'.cell? ⟨b, 3, none⟩ = some (.pointer qrr)) := fun w' h => ⟨h, by rw [World.cell?_of_block (h.block b hbw)]; exact c2, by rw [World.cell?_of_block (h.block b hbw)]; exact c3⟩
    generalize hdr : (T.node rk rv rl rr).deep = dr at *
    have hwr : IntKind.i64.wrap ((dr : Int) + 1) = (dr : Int) + 1 := wrap_ok (by omega) (by omega)
    have hwl : IntKind.i64.wrap ((l.deep : Int) + 1) = (l.deep : Int) + 1 := wrap_ok (by omega) (by omega)
    have hgt : decide ((l.deep : Int) + 1 < (dr : Int)) = true := decide_eq_true (by omega)
    have hgf : decide ((dr : Int) + 1 < (l.deep : Int)) = false := decide_eq_false (by omega)
    have Hc := Lib.hid hc
    clear hc
    go_enter Try.func44, Try.ntmps44
    go_wp2_with fail
    go_quiet (first
      | (go_at_call_of 49 (Value.pointer (some ⟨b, 0, none⟩)); exact Calls.quiet_of_same (deep_any _ _ _ _ (Tn.dw hr0 (by rfl)) _ ⟨by rw [hdr], rfl⟩))
      | (go_at_call_of 49 (Value.pointer ql); exact Calls.quiet_of_same (deep_any _ _ _ _ (Tn.dw hl (by rfl)) _ ⟨rfl, rfl⟩))
      | (go_at_call_of 49 (Value.pointer qrr); exact Calls.quiet_of_same (deep_any _ _ _ _ (Tn.dw hrr (by rfl)) _ ⟨rfl, rfl⟩))
      | (go_at_call_of 49 (Value.pointer qrl); exact Calls.quiet_of_same (deep_any _ _ _ _ (Tn.dw hrl (by rfl)) _ ⟨rfl, rfl⟩)))
    go_wp2_with (first
      | (go_at_call_of 49 (Value.pointer (some ⟨b, 0, none⟩)); refine deep_any _ _ _ _ (Tn.dw hr0 (by rfl)) _ ?_; rw [hdr])
      | (go_at_call_of 49 (Value.pointer ql); refine deep_any _ _ _ _ (Tn.dw hl (by rfl)) _ ?_))
    generalize hw2 : w.drewN nq = w2
    have e2 : w2.heap = w.heap := by rw [← hw2]; rfl
    have hx : Below w.heap.size w w2 := hw2 ▸ drewN (Below.refl _ _) nq
    obtain ⟨-, y1, y2⟩ := hkeep w2 hx
    go_quiet (first
      | (go_at_call_of 49 (Value.pointer (some ⟨b, 0, none⟩)); exact Calls.quiet_of_same (deep_any _ _ _ _ (Tn.dw hr0 (by exact e2)) _ ⟨by rw [hdr], rfl⟩))
      | (go_at_call_of 49 (Value.pointer ql); exact Calls.quiet_of_same (deep_any _ _ _ _ (Tn.dw hl (by exact e2)) _ ⟨rfl, rfl⟩))
      | (go_at_call_of 49 (Value.pointer qrr); exact Calls.quiet_of_same (deep_any _ _ _ _ (Tn.dw hrr (by exact e2)) _ ⟨rfl, rfl⟩))
      | (go_at_call_of 49 (Value.pointer qrl); exact Calls.quiet_of_same (deep_any _ _ _ _ (Tn.dw hrl (by exact e2)) _ ⟨rfl, rfl⟩)))
    go_wp2_with (first
      | (go_at_call_of 49 (Value.pointer (some ⟨b, 0, none⟩)); refine deep_any _ _ _ _ (Tn.dw hr0 (by exact e2)) _ ?_; rw [hdr])
      | (go_at_call_of 49 (Value.pointer ql); refine deep_any _ _ _ _ (Tn.dw hl (by exact e2)) _ ?_))
    go_region_held3 (fun w' => Below w.heap.size w w' ∧ w'.cell? ⟨b, 2, none⟩ = some (.pointer qrl) ∧ w'.cell? ⟨b, 3, none⟩ = some (.pointer qrr))
      ((apply hkeep; first | exact stepS (by assumption) (by assumption) | exact drewN (Below.refl _ _).drew _ | exact (drewN (Below.refl _ _) _).drew | (repeat (first | assumption | apply drewN | apply Below.drew))))
      (first
        | (go_at_call_of 45 (Value.pointer qrl)
           refine (join_c B lo k v x y l rl _ _ _ _ hB (szS hlo (by assumption)) (Tn.s hn hB hlo (by assumption)) (Tn.s hl hB hlo (by assumption)) (Tn.s hrl hB hlo (by assumption)) (by (try simp only [T.many]); omega)).mono ?_
           rintro e w' ⟨q1, rfl, hb', ht', hsz⟩)
        | (go_at_call_of 45 (Value.pointer qrr)
           refine (join_c B lo rk rv rl rr (.node k v l rl) rr _ _ _ _ hB (szS hlo (by assumption)) (Tn.s hr0 hB hlo (by assumption)) (by first | assumption | exact Tn.step (by assumption) hB (by assumption) (by assumption)) (Tn.s hrr hB hlo (by assumption)) (by (try simp only [T.many]); omega)).mono ?_
           rintro e w' ⟨q2, rfl, hb', ht', hsz⟩))
    all_goals go_wp2_with fail
    all_goals exact fin (hR _ _ (And.left (by assumption)) (by assumption)) rfl
  · obtain ⟨mk, mv, ml, mr, rfl⟩ := T.deep_pos (show 0 < rl.deep by omega)
    have e : T.level k v l (.node rk rv (.node mk mv ml mr) rr) = .node mk mv (.node k v l ml) (.node rk rv mr rr) := by simp only [T.level]; rw [if_neg (by omega), if_pos hlt, if_neg hd]
    rw [e] at hR
    have hrl0 := hrl
    obtain ⟨b2, kv2, vv2, qml, qmr, e2, hb2, hc2, -, -, hml, hmr⟩ := hrl.open
    cases e2
    obtain ⟨-, -, c6, c7, -, -⟩ := hc2.c6
    have hbw2 := Xs.lt hB hlo hb2
    have hkeep : ∀ w', Below w.heap.size w w' → (Below w.heap.size w w' ∧ w'.cell? ⟨b, 2, none⟩ = some (.pointer (some ⟨b2, 0, none⟩)) ∧ w'.cell? ⟨b, 3, none⟩ = some (.pointer qrr) ∧ w'.cell? ⟨b2, 2, none⟩ = some (.pointer qml) ∧ w'.cell? ⟨b2, 3, none⟩ = some (.pointer qmr)) :=
      fun w' h => ⟨h, by rw [World.cell?_of_block (h.block b hbw)]; exact c2, by rw [World.cell?_of_block (h.block b hbw)]; exact c3, by rw [World.cell?_of_block (h.block b2 hbw2)]; exact c6, by rw [World.cell?_of_block (h.block b2 hbw2)]; exact c7⟩
    have hm3 : rr.many + ml.many + mr.many + l.many + 2 ≤ 100000000000 := by simp only [T.many] at hm2; omega
    generalize hdr : (T.node rk rv (.node mk mv ml mr) rr).deep = dr at *
    generalize hdm : (T.node mk mv ml mr).deep = dm at *
    have hwr : IntKind.i64.wrap ((dr : Int) + 1) = (dr : Int) + 1 := wrap_ok (by omega) (by omega)
    have hwl : IntKind.i64.wrap ((l.deep : Int) + 1) = (l.deep : Int) + 1 := wrap_ok (by omega) (by omega)
    have hgt : decide ((l.deep : Int) + 1 < (dr : Int)) = true := decide_eq_true (by omega)
    have hgf : decide ((dr : Int) + 1 < (l.deep : Int)) = false := decide_eq_false (by omega)
    have Hc := Lib.hid hc
    clear hc
    have Hc2 := Lib.hid hc2
    clear hc2
    go_enter Try.func44, Try.ntmps44
    go_wp2_with fail
    go_quiet (first
      | (go_at_call_of 49 (Value.pointer (some ⟨b, 0, none⟩)); exact Calls.quiet_of_same (deep_any _ _ _ _ (Tn.dw hr0 (by rfl)) _ ⟨by rw [hdr], rfl⟩))
      | (go_at_call_of 49 (Value.pointer ql); exact Calls.quiet_of_same (deep_any _ _ _ _ (Tn.dw hl (by rfl)) _ ⟨rfl, rfl⟩))
      | (go_at_call_of 49 (Value.pointer qrr); exact Calls.quiet_of_same (deep_any _ _ _ _ (Tn.dw hrr (by rfl)) _ ⟨rfl, rfl⟩))
      | (go_at_call_of 49 (Value.pointer (some ⟨b2, 0, none⟩)); exact Calls.quiet_of_same (deep_any _ _ _ _ (Tn.dw hrl0 (by rfl)) _ ⟨by rw [hdm], rfl⟩)))
    go_wp2_with (first
      | (go_at_call_of 49 (Value.pointer (some ⟨b, 0, none⟩)); refine deep_any _ _ _ _ (Tn.dw hr0 (by rfl)) _ ?_; rw [hdr])
      | (go_at_call_of 49 (Value.pointer ql); refine deep_any _ _ _ _ (Tn.dw hl (by rfl)) _ ?_))
    generalize hw2 : w.drewN nq = w2
    have e2 : w2.heap = w.heap := by rw [← hw2]; rfl
    have hx : Below w.heap.size w w2 := hw2 ▸ drewN (Below.refl _ _) nq
    obtain ⟨-, y1, y2, y3, y4⟩ := hkeep w2 hx
    go_quiet (first
      | (go_at_call_of 49 (Value.pointer (some ⟨b, 0, none⟩)); exact Calls.quiet_of_same (deep_any _ _ _ _ (Tn.dw hr0 (by exact e2)) _ ⟨by rw [hdr], rfl⟩))
      | (go_at_call_of 49 (Value.pointer ql); exact Calls.quiet_of_same (deep_any _ _ _ _ (Tn.dw hl (by exact e2)) _ ⟨rfl, rfl⟩))
      | (go_at_call_of 49 (Value.pointer qrr); exact Calls.quiet_of_same (deep_any _ _ _ _ (Tn.dw hrr (by exact e2)) _ ⟨rfl, rfl⟩))
      | (go_at_call_of 49 (Value.pointer (some ⟨b2, 0, none⟩)); exact Calls.quiet_of_same (deep_any _ _ _ _ (Tn.dw hrl0 (by exact e2)) _ ⟨by rw [hdm], rfl⟩)))
    go_wp2_with (first
      | (go_at_call_of 49 (Value.pointer (some ⟨b, 0, none⟩)); refine deep_any _ _ _ _ (Tn.dw hr0 (by exact e2)) _ ?_; rw [hdr])
      | (go_at_call_of 49 (Value.pointer ql); refine deep_any _ _ _ _ (Tn.dw hl (by exact e2)) _ ?_))
    go_region_held3 (fun w' => Below w.heap.size w w' ∧ w'.cell? ⟨b, 2, none⟩ = some (.pointer (some ⟨b2, 0, none⟩)) ∧ w'.cell? ⟨b, 3, none⟩ = some (.pointer qrr) ∧ w'.cell? ⟨b2, 2, none⟩ = some (.pointer qml) ∧ w'.cell? ⟨b2, 3, none⟩ = some (.pointer qmr))
      ((apply hkeep; first | exact stepS (by assumption) (by assumption) | exact drewN (Below.refl _ _).drew _ | exact (drewN (Below.refl _ _) _).drew | (repeat (first | assumption | apply drewN | apply Below.drew))))
      (first
        | (go_at_call_of 45 (Value.pointer ql)
           refine (join_c B lo k v x y l ml _ _ _ _ hB (szS hlo (by assumption)) (Tn.s hn hB hlo (by assumption)) (Tn.s hl hB hlo (by assumption)) (Tn.s hml hB hlo (by assumption)) (by (try simp only [T.many]); omega)).mono ?_
           rintro e w' ⟨q1, rfl, hb', ht', hsz⟩)
        | (go_at_call_of 45 (Value.pointer qrr)
           refine (join_c B lo rk rv (.node mk mv ml mr) rr mr rr _ _ _ _ hB (szS hlo (by assumption)) (Tn.s hr0 hB hlo (by assumption)) (Tn.s hmr hB hlo (by assumption)) (Tn.s hrr hB hlo (by assumption)) (by (try simp only [T.many]); omega)).mono ?_
           rintro e w' ⟨q2, rfl, hb', ht', hsz⟩)
        | (go_at_call_of 45 (Value.pointer (some ⟨b2, 0, none⟩))
           refine (join_c B lo mk mv ml mr (.node k v l ml) (.node rk rv mr rr) _ _ _ _ hB (szS hlo (by assumption)) (Tn.s hrl0 hB hlo (by assumption)) (by first | assumption | exact Tn.step (by assumption) hB (by assumption) (by assumption)) (by first | assumption | exact Tn.step (by assumption) hB (by assumption) (by assumption)) (by (try simp only [T.many]); omega)).mono ?_
           rintro e w' ⟨q3, rfl, hb', ht', hsz⟩))
    all_goals go_wp2_with fail
    all_goals exact fin (hR _ _ (And.left (by assumption)) (by assumption)) rfl

set_option maxRecDepth 100000 in
set_option maxHeartbeats 4000000 in
theorem level_any (B : Nat → Prop) (lo : Nat) (k v : List UInt8) (x y l r : T) (p pl pr : Value) (w : World) (hB : ∀ b, B b → b < lo) (hlo : lo ≤ w.heap.size) (hn : Tn B lo w (.node k v x y) p) (hl : Tn B lo w l pl) (hr : Tn B lo w r pr) (hm : l.many + r.many ≤ 100000000000)
    (R : Ending → World → Prop) (hR : ∀ w' p', Below w.heap.size w w' → Tn B lo w' (T.level k v l r) p' → R (.returned p') w') : Calls Try.prog 44 #[p, pl, pr] w R := by
  by_cases h1 : r.deep + 1 < l.deep
  · exact level_left B lo k v x y l r p pl pr w hB hlo hn hl hr hm h1 R hR
  by_cases h2 : l.deep + 1 < r.deep
  · exact level_right B lo k v x y l r p pl pr w hB hlo hn hl hr hm h2 R hR
  have e : T.level k v l r = .node k v l r := by unfold T.level; rw [if_neg h1, if_neg h2]
  rw [e] at hR
  obtain ⟨qn, rfl⟩ := Nd.ptr hn
  obtain ⟨ql, rfl⟩ := Nd.ptr hl
  obtain ⟨qr, rfl⟩ := Nd.ptr hr
  have d1 := l.deep_le
  have d2 := r.deep_le
  have m1 : l.deep ≤ 100000000000 := by omega
  have m2 : r.deep ≤ 100000000000 := by omega
  clear d1 d2
  have hwr : IntKind.i64.wrap ((r.deep : Int) + 1) = (r.deep : Int) + 1 := wrap_ok (by omega) (by omega)
  have hwl : IntKind.i64.wrap ((l.deep : Int) + 1) = (l.deep : Int) + 1 := wrap_ok (by omega) (by omega)
  have hgt : decide ((l.deep : Int) + 1 < (r.deep : Int)) = false := decide_eq_false (by omega)
  have hgf : decide ((r.deep : Int) + 1 < (l.deep : Int)) = false := decide_eq_false (by omega)
  go_enter Try.func44, Try.ntmps44
  go_wp2_with fail
  go_quiet (first
      | (go_at_call_of 49 (Value.pointer ql); exact Calls.quiet_of_same (deep_any _ _ _ _ (Tn.dw hl (by rfl)) _ ⟨rfl, rfl⟩))
      | (go_at_call_of 49 (Value.pointer qr); exact Calls.quiet_of_same (deep_any _ _ _ _ (Tn.dw hr (by rfl)) _ ⟨rfl, rfl⟩)))
  go_wp2_with (first
      | (go_at_call_of 49 (Value.pointer ql); refine deep_any _ _ _ _ (Tn.dw hl (by rfl)) _ ?_)
      | (go_at_call_of 49 (Value.pointer qr); refine deep_any _ _ _ _ (Tn.dw hr (by rfl)) _ ?_))
  generalize hw2 : w.drewN nq = w2
  have e2 : w2.heap = w.heap := by rw [← hw2]; rfl
  have hx : Below w.heap.size w w2 := hw2 ▸ drewN (Below.refl _ _) nq
  go_quiet (first
      | (go_at_call_of 49 (Value.pointer ql); exact Calls.quiet_of_same (deep_any _ _ _ _ (Tn.dw hl (by exact e2)) _ ⟨rfl, rfl⟩))
      | (go_at_call_of 49 (Value.pointer qr); exact Calls.quiet_of_same (deep_any _ _ _ _ (Tn.dw hr (by exact e2)) _ ⟨rfl, rfl⟩)))
  go_wp2_with (first
      | (go_at_call_of 49 (Value.pointer ql); refine deep_any _ _ _ _ (Tn.dw hl (by exact e2)) _ ?_)
      | (go_at_call_of 49 (Value.pointer qr); refine deep_any _ _ _ _ (Tn.dw hr (by exact e2)) _ ?_))
  have hX : Below w.heap.size w (w2.drewN nq) := drewN hx _
  refine join_any B lo k v x y l r _ _ _ _ hB (Nat.le_trans hlo hX.size) (hn.step hB hlo hX) (hl.step hB hlo hX) (hr.step hB hlo hX) (by omega) _ fun w' p' k1 k2 => ?_
  go_wp2_with fail
  exact fin (hR _ _ (hX.trans (k1.mono hX.size)) k2) rfl
end Go.Proofs.Ytmlcnfomiemdpaa
