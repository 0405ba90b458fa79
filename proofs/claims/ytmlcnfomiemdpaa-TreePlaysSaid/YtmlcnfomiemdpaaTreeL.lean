/- Trees: a node between two others, one of which may be deeper by two. -/
import Derived.Test.YtmlcnfomiemdpaaTreeJ
import Derived.Deep.RegionHeld3
import Derived.Deep.DrawnRows
import Derived.Lib.QuoteBits
namespace Go.Proofs.Ytmlcnfomiemdpaa
open Go.RowKit
attribute [local go_sem ↓] Go.wp_at_zero Go.wp_at_succ

theorem wrap_ok {x : Int} (h1 : 0 ≤ x) (h2 : x ≤ 9223372036854775807) : IntKind.i64.wrap x = x := by
  obtain ⟨n, rfl⟩ := Int.eq_ofNat_of_zero_le h1
  exact Lib.wrap_i64_small n (by omega)
theorem join_c (B : Nat → Prop) (lo : Nat) (k v : List UInt8) (x y l r : T) (p pl pr : Value) (w : World) (hB : ∀ b, B b → b < lo) (hlo : lo ≤ w.heap.size) (hn : Tn B lo w (.node k v x y) p) (hl : Tn B lo w l pl) (hr : Tn B lo w r pr) (hm : l.many + r.many ≤ 1000000000000) :
    Calls Try.prog 45 #[p, pl, pr] w fun e w' => ∃ q, e = .returned (.pointer q) ∧ Below w.heap.size w w' ∧ Tn B lo w' (.node k v l r) (.pointer q) ∧ lo ≤ w'.heap.size :=
  join_any B lo k v x y l r p pl pr w hB hlo hn hl hr hm _ fun w' p' h1 h2 => by obtain ⟨q, rfl⟩ := h2.ptr; exact ⟨q, rfl, h1, h2, Nat.le_trans hlo h1.size⟩
theorem szS {w W : World} {C : Prop} {lo : Nat} (hlo : lo ≤ w.heap.size) (h : Below w.heap.size w W ∧ C) : lo ≤ W.heap.size := Nat.le_trans hlo h.1.size
theorem Tn.s {B : Nat → Prop} {lo : Nat} {w W : World} {C : Prop} {t : T} {p : Value} (h : Tn B lo w t p) (hB : ∀ b, B b → b < lo) (hlo : lo ≤ w.heap.size) (hs : Below w.heap.size w W ∧ C) : Tn B lo W t p := h.step hB hlo hs.1
theorem stepS {w W W' : World} {C : Prop} (h : Below w.heap.size w W ∧ C) (h2 : Below W.heap.size W W') : Below w.heap.size w W' := h.1.trans (h2.mono h.1.size)
theorem Tn.dn {B : Nat → Prop} {lo : Nat} {w : World} {t : T} {p : Value} (h : Tn B lo w t p) (n : Nat) : Nd (Xs B lo w) (w.drewN n) t p := Nd.on (w := w) (w' := w.drewN n) (B := Xs B lo w) (fun _ _ => rfl) (fun _ h => h) t h
theorem Tn.dw {B : Nat → Prop} {lo : Nat} {w w' : World} {t : T} {p : Value} (h : Tn B lo w t p) (e : w'.heap = w.heap) : Nd (Xs B lo w) w' t p := Nd.on (w := w) (w' := w') (B := Xs B lo w) (fun _ _ => by rw [e]) (fun _ h => h) t h
/-- A node's cells and parts. -/
theorem Tn.open {B : Nat → Prop} {lo : Nat} {w : World} {k v : List UInt8} {l r : T} {p : Value} (h : Tn B lo w (.node k v l r) p) : ∃ b kv vv ql qr, p = .pointer (some ⟨b, 0, none⟩) ∧ Xs B lo w b ∧
    CellsAt w b 0 [kv, vv, .pointer ql, .pointer qr, .int .i64 ((1 + max l.deep r.deep : Nat) : Int), .int .i64 ((1 + l.many + r.many : Nat) : Int)] ∧ Ty B lo w kv k ∧ Ty B lo w vv v ∧ Tn B lo w l (.pointer ql) ∧ Tn B lo w r (.pointer qr) := by
  obtain ⟨b, kv, vv, lp, rp, e, hb, hc, hk, hv, hl, hr⟩ := h
  obtain ⟨ql, rfl⟩ := Nd.ptr hl
  obtain ⟨qr, rfl⟩ := Nd.ptr hr
  exact ⟨b, kv, vv, ql, qr, e, hb, hc, hk, hv, hl, hr⟩

set_option maxRecDepth 100000 in
set_option maxHeartbeats 4000000 in
theorem level_left (B : Nat → Prop) (lo : Nat) (k v : List UInt8) (x y l r : T) (p pl pr : Value) (w : World) (hB : ∀ b, B b → b < lo) (hlo : lo ≤ w.heap.size) (hn : Tn B lo w (.node k v x y) p) (hl : Tn B lo w l pl) (hr : Tn B lo w r pr) (hm : l.many + r.many ≤ 100000000000)
    (hlt : r.deep + 1 < l.deep)
    (R : Ending → World → Prop) (hR : ∀ w' p', Below w.heap.size w w' → Tn B lo w' (T.level k v l r) p' → R (.returned p') w') : Calls Try.prog 44 #[p, pl, pr] w R := by
  obtain ⟨lk, lv, ll, lr, rfl⟩ := T.deep_pos (show 0 < l.deep by omega)
  obtain ⟨qn, rfl⟩ := Nd.ptr hn
  obtain ⟨qr, rfl⟩ := Nd.ptr hr
  have hl0 := hl
  obtain ⟨b, kv, vv, qll, qlr, rfl, hb, hc, -, -, hll, hlr⟩ := hl.open
  obtain ⟨-, -, c2, c3, c4, -⟩ := hc.c6
  have hbw := Xs.lt hB hlo hb
  have d1 := (T.node lk lv ll lr).deep_le
  have m1 : (T.node lk lv ll lr).deep ≤ 100000000000 := by omega
  have m2 : r.deep ≤ 100000000000 := by omega
  have hm2 : ll.many + lr.many + r.many + 1 ≤ 100000000000 := by simp only [T.many] at hm; omega
  clear d1
  by_cases hd : lr.deep ≤ ll.deep
  · have e : T.level k v (.node lk lv ll lr) r = .node lk lv ll (.node k v lr r) := by simp only [T.level]; rw [if_pos hlt, if_pos hd]
    rw [e] at hR
    have hkeep : ∀ w', Below w.heap.size w w' → (Below w.heap.size w w' ∧ w'.cell? ⟨b, 2, none⟩ = some (.pointer qll) ∧ w'.cell? ⟨b, 3, none⟩ = some (.pointer qlr)) := fun w' h => ⟨h, by rw [World.cell?_of_block (h.block b hbw)]; exact c2, by rw [World.cell?_of_block (h.block b hbw)]; exact c3⟩
    generalize hdl : (T.node lk lv ll lr).deep = dl at *
    have hwr : IntKind.i64.wrap ((r.deep : Int) + 1) = (r.deep : Int) + 1 := wrap_ok (by omega) (by omega)
    have hgt : decide ((r.deep : Int) + 1 < (dl : Int)) = true := decide_eq_true (by omega)
    have Hc := Lib.hid hc
    clear hc
    go_enter Try.func44, Try.ntmps44
    go_wp2_with fail
    go_quiet (first
      | (go_at_call_of 49 (Value.pointer (some ⟨b, 0, none⟩)); exact Calls.quiet_of_same (deep_any _ _ _ _ (Tn.dn hl0 _) _ ⟨by rw [hdl], rfl⟩))
      | (go_at_call_of 49 (Value.pointer qr); exact Calls.quiet_of_same (deep_any _ _ _ _ (Tn.dn hr _) _ ⟨rfl, rfl⟩))
      | (go_at_call_of 49 (Value.pointer qll); exact Calls.quiet_of_same (deep_any _ _ _ _ (Tn.dn hll _) _ ⟨rfl, rfl⟩))
      | (go_at_call_of 49 (Value.pointer qlr); exact Calls.quiet_of_same (deep_any _ _ _ _ (Tn.dn hlr _) _ ⟨rfl, rfl⟩)))
    go_wp2_with fail
    go_region_held3 (fun w' => Below w.heap.size w w' ∧ w'.cell? ⟨b, 2, none⟩ = some (.pointer qll) ∧ w'.cell? ⟨b, 3, none⟩ = some (.pointer qlr))
      ((apply hkeep; first | exact stepS (by assumption) (by assumption) | exact drewN (Below.refl _ _).drew _ | exact (drewN (Below.refl _ _) _).drew))
      (first
        | (go_at_call_of 45 (Value.pointer qlr)
           refine (join_c B lo k v x y lr r _ _ _ _ hB (szS hlo (by assumption)) (Tn.s hn hB hlo (by assumption)) (Tn.s hlr hB hlo (by assumption)) (Tn.s hr hB hlo (by assumption)) (by omega)).mono ?_
           rintro e w' ⟨q, rfl, hb', ht', hsz⟩)
        | (go_at_call_of 45 (Value.pointer qll)
           refine (join_c B lo lk lv ll lr ll (.node k v lr r) _ _ _ _ hB (szS hlo (by assumption)) (Tn.s hl0 hB hlo (by assumption)) (Tn.s hll hB hlo (by assumption)) (by assumption) (by simp only [T.many]; omega)).mono ?_
           rintro e w' ⟨q, rfl, hb', ht', hsz⟩))
    all_goals go_wp2_with fail
    all_goals exact fin (hR _ _ (And.left (by assumption)) (by assumption)) rfl
  · obtain ⟨mk, mv, ml, mr, rfl⟩ := T.deep_pos (show 0 < lr.deep by omega)
    have e : T.level k v (.node lk lv ll (.node mk mv ml mr)) r = .node mk mv (.node lk lv ll ml) (.node k v mr r) := by simp only [T.level]; rw [if_pos hlt, if_neg hd]
    rw [e] at hR
    have hlr0 := hlr
    obtain ⟨b2, kv2, vv2, qml, qmr, e2, hb2, hc2, -, -, hml, hmr⟩ := hlr.open
    cases e2
    obtain ⟨-, -, c6, c7, -, -⟩ := hc2.c6
    have hbw2 := Xs.lt hB hlo hb2
    have hkeep : ∀ w', Below w.heap.size w w' → (Below w.heap.size w w' ∧ w'.cell? ⟨b, 2, none⟩ = some (.pointer qll) ∧ w'.cell? ⟨b, 3, none⟩ = some (.pointer (some ⟨b2, 0, none⟩)) ∧ w'.cell? ⟨b2, 2, none⟩ = some (.pointer qml) ∧ w'.cell? ⟨b2, 3, none⟩ = some (.pointer qmr)) :=
      fun w' h => ⟨h, by rw [World.cell?_of_block (h.block b hbw)]; exact c2, by rw [World.cell?_of_block (h.block b hbw)]; exact c3, by rw [World.cell?_of_block (h.block b2 hbw2)]; exact c6, by rw [World.cell?_of_block (h.block b2 hbw2)]; exact c7⟩
    have hm3 : ll.many + ml.many + mr.many + r.many + 2 ≤ 100000000000 := by simp only [T.many] at hm2; omega
    generalize hdl : (T.node lk lv ll (.node mk mv ml mr)).deep = dl at *
    generalize hdm : (T.node mk mv ml mr).deep = dm at *
    have hwr : IntKind.i64.wrap ((r.deep : Int) + 1) = (r.deep : Int) + 1 := wrap_ok (by omega) (by omega)
    have hgt : decide ((r.deep : Int) + 1 < (dl : Int)) = true := decide_eq_true (by omega)
    have Hc := Lib.hid hc
    have Hc2 := Lib.hid hc2
    clear hc hc2
    go_enter Try.func44, Try.ntmps44
    go_wp2_with fail
    go_quiet (first
      | (go_at_call_of 49 (Value.pointer (some ⟨b, 0, none⟩)); exact Calls.quiet_of_same (deep_any _ _ _ _ (Tn.dn hl0 _) _ ⟨by rw [hdl], rfl⟩))
      | (go_at_call_of 49 (Value.pointer qr); exact Calls.quiet_of_same (deep_any _ _ _ _ (Tn.dn hr _) _ ⟨rfl, rfl⟩))
      | (go_at_call_of 49 (Value.pointer qll); exact Calls.quiet_of_same (deep_any _ _ _ _ (Tn.dn hll _) _ ⟨rfl, rfl⟩))
      | (go_at_call_of 49 (Value.pointer (some ⟨b2, 0, none⟩)); exact Calls.quiet_of_same (deep_any _ _ _ _ (Tn.dn hlr0 _) _ ⟨by rw [hdm], rfl⟩)))
    go_wp2_with (first
      | (go_at_call_of 49 (Value.pointer (some ⟨b, 0, none⟩)); refine deep_any _ _ _ _ (Tn.dn hl0 _) _ ?_; rw [hdl])
      | (go_at_call_of 49 (Value.pointer qr); refine deep_any _ _ _ _ (Tn.dn hr _) _ ?_))
    go_region_held3 (fun w' => Below w.heap.size w w' ∧ w'.cell? ⟨b, 2, none⟩ = some (.pointer qll) ∧ w'.cell? ⟨b, 3, none⟩ = some (.pointer (some ⟨b2, 0, none⟩)) ∧ w'.cell? ⟨b2, 2, none⟩ = some (.pointer qml) ∧ w'.cell? ⟨b2, 3, none⟩ = some (.pointer qmr))
      ((apply hkeep; first | exact stepS (by assumption) (by assumption) | exact drewN (Below.refl _ _).drew _ | exact (drewN (Below.refl _ _) _).drew))
      (first
        | (go_at_call_of 45 (Value.pointer qll)
           refine (join_c B lo lk lv ll (.node mk mv ml mr) ll ml _ _ _ _ hB (szS hlo (by assumption)) (Tn.s hl0 hB hlo (by assumption)) (Tn.s hll hB hlo (by assumption)) (Tn.s hml hB hlo (by assumption)) (by omega)).mono ?_
           rintro e w' ⟨q1, rfl, hb', ht1, hsz⟩)
        | (go_at_call_of 45 (Value.pointer qmr)
           refine (join_c B lo k v x y mr r _ _ _ _ hB (szS hlo (by assumption)) (Tn.s hn hB hlo (by assumption)) (Tn.s hmr hB hlo (by assumption)) (Tn.s hr hB hlo (by assumption)) (by omega)).mono ?_
           rintro e w' ⟨q2, rfl, hb', ht2, hsz⟩)
        | (go_at_call_of 45 (Value.pointer (some ⟨b2, 0, none⟩))
           refine (join_c B lo mk mv ml mr (.node lk lv ll ml) (.node k v mr r) _ _ _ _ hB (szS hlo (by assumption)) (Tn.s hlr0 hB hlo (by assumption))
             (by first | assumption | exact Tn.step (by assumption) hB (by assumption) (by assumption)) (by first | assumption | exact Tn.step (by assumption) hB (by assumption) (by assumption)) (by simp only [T.many]; omega)).mono ?_
           rintro e w' ⟨q3, rfl, hb', ht3, hsz⟩))
    all_goals go_wp2_with fail
    all_goals exact fin (hR _ _ (And.left (by assumption)) (by assumption)) rfl
end Go.Proofs.Ytmlcnfomiemdpaa
