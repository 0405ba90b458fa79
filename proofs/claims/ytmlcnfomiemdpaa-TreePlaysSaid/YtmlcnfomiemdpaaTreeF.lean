/- Trees: a key's node; a tree with a pair. -/
import Derived.Test.YtmlcnfomiemdpaaTreeR
import Derived.Deep.LoopGhost
import Derived.WalkMore
namespace Go.Proofs.Ytmlcnfomiemdpaa
open Go.RowKit
attribute [local go_sem ↓] Go.wp_at_zero Go.wp_at_succ

set_option maxRecDepth 100000 in
set_option maxHeartbeats 2000000 in
theorem find_any (B : Nat → Prop) (lo klo khi : Nat) (k : List UInt8) (t : T) (p kv : Value) (w : World) (ht : Tn B lo w t p) (hk : Bytes klo khi w kv k)
    (R : Ending → World → Prop) (hR : ∀ p', Tn B lo w (t.find k) p' → R (.returned p') w) : Calls Try.prog 32 #[p, kv] w R := by
  have Hk := Lib.hid hk
  have Ht := Lib.hid ht
  obtain ⟨ak, ck, rfl, -, -, -⟩ := hk.form
  clear hk ht
  go_enter Try.func32, Try.ntmps32
  go_wp2_with fail
  go_step3
  go_wp2_with fail
  go_step3
  go_wp2_with fail
  go_loopg [0] (t.many + 1) (fun n t0 wr => wr = w ∧ ∃ t' : T, Tn B lo w t' t0 ∧ t'.find k = t.find k ∧ t'.many < n)
  case atStart => exact ⟨rfl, t, Ht.out, rfl, Nat.lt_succ_self _⟩
  case round =>
    obtain ⟨rfl, t', h', hf, hm⟩ := hrel
    cases t' with
    | nil =>
      cases h'
      have hr : Tn B lo wr (T.find k t) (.pointer none) := by rw [← hf]; rfl
      go_wp2_with fail
      first | exact hr | exact fin (hR _ hr) rfl
    | node k' v' l r =>
      have h0 := h'
      obtain ⟨b, kv', vv', ql, qr, rfl, hb, hc, hk', -, hl, hr⟩ := h'.open
      obtain ⟨c0, -, c2, c3, -, -⟩ := hc.c6
      obtain ⟨kb, -, hk''⟩ := hk'
      have hbc := fun R hR => bytes_Compare wr Hk.out hk'' R hR
      simp only [T.many] at hm
      have Hb := Lib.hid hbc
      obtain ⟨ak', ck', rfl, -, -, -⟩ := hk''.form
      clear hc hk'' hbc
      go_wp2_with fail
      refine Hb.out _ ?_
      have Hf := Lib.hid hf
      have H0 := Lib.hid h0
      clear hf h0 h'
      by_cases hlt : Lib.compareBytes k k' < 0
      · have e : T.find k (.node k' v' l r) = T.find k l := by simp only [T.find]; rw [if_pos hlt]
        generalize Lib.compareBytes k k' = c at *
        go_wp2_with fail
        go_roundg (gk - 1)
        case measure => omega
        case rel => exact ⟨rfl, l, hl, e ▸ Hf.out, by omega⟩
      · by_cases hgt : 0 < Lib.compareBytes k k'
        · have e : T.find k (.node k' v' l r) = T.find k r := by simp only [T.find]; rw [if_neg hlt, if_pos hgt]
          generalize Lib.compareBytes k k' = c at *
          go_wp2_with fail
          go_roundg (gk - 1)
          case measure => omega
          case rel => exact ⟨rfl, r, hr, e ▸ Hf.out, by omega⟩
        · have e : T.find k (.node k' v' l r) = .node k' v' l r := by simp only [T.find]; rw [if_neg hlt, if_neg hgt]
          have hr : Tn B lo wr (T.find k t) (.pointer (some ⟨b, 0, none⟩)) := by rw [← Hf.out, e]; exact H0.out
          generalize Lib.compareBytes k k' = c at *
          go_wp2_with fail
          first | exact hr | exact fin (hR _ hr) rfl

theorem level_c (B : Nat → Prop) (lo : Nat) (k v : List UInt8) (x y l r : T) (p pl pr : Value) (w : World) (hB : ∀ b, B b → b < lo) (hlo : lo ≤ w.heap.size) (hn : Tn B lo w (.node k v x y) p) (hl : Tn B lo w l pl) (hr : Tn B lo w r pr) (hm : l.many + r.many ≤ 100000000000) :
    Calls Try.prog 44 #[p, pl, pr] w fun e w' => ∃ q, e = .returned (.pointer q) ∧ Below w.heap.size w w' ∧ Tn B lo w' (T.level k v l r) (.pointer q) ∧ lo ≤ w'.heap.size :=
  level_any B lo k v x y l r p pl pr w hB hlo hn hl hr hm _ fun w' p' h1 h2 => by obtain ⟨q, rfl⟩ := Nd.ptr h2; exact ⟨q, rfl, h1, h2, Nat.le_trans hlo h1.size⟩

set_option maxRecDepth 100000 in
set_option maxHeartbeats 4000000 in
theorem put_any (B : Nat → Prop) (lo : Nat) (k v : List UInt8) (hB : ∀ b, B b → b < lo) : ∀ (t : T) (p kv vv : Value) (w : World) (hlo : lo ≤ w.heap.size) (ht : Tn B lo w t p) (hk : Ty B lo w kv k) (hv : Ty B lo w vv v) (hm : t.many ≤ 10000000000)
    (R : Ending → World → Prop) (hR : ∀ w' q, Below w.heap.size w w' → lo ≤ w'.heap.size → Tn B lo w' (t.put k v) (.pointer q) → R (.returned (.pointer q)) w'), Calls Try.prog 33 #[p, kv, vv] w R := by
  intro t
  induction t with
  | nil =>
    intro p kv vv w hlo ht hk hv hm R hR
    cases ht
    have Hk := Lib.hid hk
    have Hv := Lib.hid hv
    obtain ⟨ak, ck, rfl, -, -⟩ := hk.form
    obtain ⟨av, cv, rfl, -, -⟩ := hv.form
    clear hk hv
    go_enter Try.func33, Try.ntmps33
    go_wp2_with fail
    have hb1 : Below w.heap.size w (w.alloc (.cells [Value.slice ak k.length ck, Value.slice av v.length cv, Value.pointer none, Value.pointer none, Value.int IntKind.i64 1, Value.int IntKind.i64 1].toArray 74)) := ((Below.refl _ _).alloc (Nat.le_refl _) _)
    have hc := (CellsAt.new w [Value.slice ak k.length ck, Value.slice av v.length cv, Value.pointer none, Value.pointer none, Value.int IntKind.i64 1, Value.int IntKind.i64 1] 74)
    have hT := Tn.made (k := k) (v := v) (l := .nil) (r := .nil) (B := B) (lo := lo) (b := w.heap.size) hlo (by simp) hc rfl rfl (Ty.step Hk.out hB hlo hb1) (Ty.step Hv.out hB hlo hb1) rfl rfl
    first | exact hR _ _ hb1 (by simp; omega) hT | exact fin (hR _ _ hb1 (by simp; omega) hT) rfl
  | node k' v' l r ihl ihr =>
    intro p kv vv w hlo ht hk hv hm R hR
    have h0 := ht
    obtain ⟨b, kv', vv', ql, qr, rfl, hb, hc, hk', -, hl, hr⟩ := ht.open
    obtain ⟨c0, -, c2, c3, -, -⟩ := hc.c6
    have hbw := Xs.lt hB hlo hb
    obtain ⟨kb, -, hk''⟩ := hk'
    have hbc := fun R hR => let ⟨kb2, _, h2⟩ := hk; bytes_Compare w h2 hk'' R hR
    have Hb := Lib.hid hbc
    have Hk := Lib.hid hk
    have Hv := Lib.hid hv
    obtain ⟨ak', ck', rfl, -, -, -⟩ := hk''.form
    obtain ⟨ak, ck, rfl, -, -⟩ := hk.form
    obtain ⟨av, cv, rfl, -, -⟩ := hv.form
    have pl := l.put_many k v
    have pr := r.put_many k v
    simp only [T.many] at hm
    have ml : l.many ≤ 10000000000 := by omega
    have mr : r.many ≤ 10000000000 := by omega
    have ml' : (l.put k v).many + r.many ≤ 100000000000 := by omega
    have mr' : l.many + (r.put k v).many ≤ 100000000000 := by omega
    have m0 : l.many + r.many ≤ 1000000000000 := by omega
    have hkeep : ∀ w', Below w.heap.size w w' → (Below w.heap.size w w' ∧ w'.cell? ⟨b, 2, none⟩ = some (.pointer ql) ∧ w'.cell? ⟨b, 3, none⟩ = some (.pointer qr)) := fun w' h => ⟨h, by rw [World.cell?_of_block (h.block b hbw)]; exact c2, by rw [World.cell?_of_block (h.block b hbw)]; exact c3⟩
    clear hc hk'' hbc hk hv pl pr
    go_enter Try.func33, Try.ntmps33
    go_wp2_with fail
    refine Hb.out _ ?_
    by_cases hlt : Lib.compareBytes k k' < 0
    · have e : T.put k v (.node k' v' l r) = T.level k' v' (l.put k v) r := by simp only [T.put]; rw [if_pos hlt]
      rw [e] at hR
      generalize Lib.compareBytes k k' = c at *
      go_wp2_with fail
      go_region_held3 (fun w' => Below w.heap.size w w' ∧ w'.cell? ⟨b, 2, none⟩ = some (.pointer ql) ∧ w'.cell? ⟨b, 3, none⟩ = some (.pointer qr))
        ((apply hkeep; first | exact stepS (by assumption) (by assumption) | (repeat (first | exact Below.refl _ _ | apply drewN | apply Below.drew))))
        (first
          | (go_at_call_of 33 (Value.pointer ql)
             refine Calls.mono (ihl _ _ _ _ (szS hlo (by assumption)) (Tn.s hl hB hlo (by assumption)) (Ty.step Hk.out hB hlo (And.left (by assumption))) (Ty.step Hv.out hB hlo (And.left (by assumption))) ml (fun e w' => ∃ q, e = .returned (.pointer q) ∧ Below _ _ w' ∧ lo ≤ w'.heap.size ∧ Tn B lo w' (l.put k v) (.pointer q)) (fun w' q k1 k2 k3 => ⟨q, rfl, k1, k2, k3⟩)) ?_
             rintro e w' ⟨q1, rfl, hb', hsz, ht'⟩)
          | (go_at_call_of 44 (Value.pointer qr)
             refine (level_c B lo k' v' l r (l.put k v) r _ _ _ _ hB (szS hlo (by assumption)) (Tn.s h0 hB hlo (by assumption)) (by assumption) (Tn.s hr hB hlo (by assumption)) ml').mono ?_
             rintro e w' ⟨q, rfl, hb', ht', hsz⟩))
      all_goals go_wp2_with fail
      all_goals first | exact fin (hR _ _ (And.left (by assumption)) (by assumption) (by assumption)) rfl
    · by_cases hgt : 0 < Lib.compareBytes k k'
      · have e : T.put k v (.node k' v' l r) = T.level k' v' l (r.put k v) := by simp only [T.put]; rw [if_neg hlt, if_pos hgt]
        rw [e] at hR
        generalize Lib.compareBytes k k' = c at *
        go_wp2_with fail
        go_region_held3 (fun w' => Below w.heap.size w w' ∧ w'.cell? ⟨b, 2, none⟩ = some (.pointer ql) ∧ w'.cell? ⟨b, 3, none⟩ = some (.pointer qr))
          ((apply hkeep; first | exact stepS (by assumption) (by assumption) | (repeat (first | exact Below.refl _ _ | apply drewN | apply Below.drew))))
          (first
            | (go_at_call_of 33 (Value.pointer qr)
               refine Calls.mono (ihr _ _ _ _ (szS hlo (by assumption)) (Tn.s hr hB hlo (by assumption)) (Ty.step Hk.out hB hlo (And.left (by assumption))) (Ty.step Hv.out hB hlo (And.left (by assumption))) mr (fun e w' => ∃ q, e = .returned (.pointer q) ∧ Below _ _ w' ∧ lo ≤ w'.heap.size ∧ Tn B lo w' (r.put k v) (.pointer q)) (fun w' q k1 k2 k3 => ⟨q, rfl, k1, k2, k3⟩)) ?_
               rintro e w' ⟨q1, rfl, hb', hsz, ht'⟩)
            | (go_at_call_of 44 (Value.pointer ql)
               refine (level_c B lo k' v' l r l (r.put k v) _ _ _ _ hB (szS hlo (by assumption)) (Tn.s h0 hB hlo (by assumption)) (Tn.s hl hB hlo (by assumption)) (by assumption) mr').mono ?_
               rintro e w' ⟨q, rfl, hb', ht', hsz⟩))
        all_goals go_wp2_with fail
        all_goals first | exact fin (hR _ _ (And.left (by assumption)) (by assumption) (by assumption)) rfl
      · have e : T.put k v (.node k' v' l r) = .node k v l r := by simp only [T.put]; rw [if_neg hlt, if_neg hgt]
        rw [e] at hR
        generalize Lib.compareBytes k k' = c at *
        have hbn : Below w.heap.size w (w.alloc (.cells #[Value.slice ak k.length ck, Value.slice av v.length cv, Value.pointer none, Value.pointer none, Value.int IntKind.i64 0, Value.int IntKind.i64 0] 74)).drew := ((Below.refl _ _).alloc (Nat.le_refl _) _).drew
        have hc0 := (CellsAt.new w [Value.slice ak k.length ck, Value.slice av v.length cv, Value.pointer none, Value.pointer none, Value.int IntKind.i64 0, Value.int IntKind.i64 0] 74).drew.c6
        replace hc0 := And.intro hc0.1 hc0.2.1
        go_wp2_with fail
        go_region_held3 (fun w' => Below w.heap.size w w' ∧ w'.cell? ⟨b, 2, none⟩ = some (.pointer ql) ∧ w'.cell? ⟨b, 3, none⟩ = some (.pointer qr))
          ((apply hkeep; first | exact stepS (by assumption) (by assumption) | (repeat (first | exact Below.refl _ _ | apply drewN | apply Below.drew | (refine Below.alloc ?_ (by simp) _)))))
          (first
            | (go_at_call_of 45 (Value.pointer ql)
               refine Calls.mono (join_p B lo k v l r _ _ _ _ hB (szS hlo (by assumption)) ⟨w.heap.size, _, _, rfl, hc0.1, hc0.2, Ty.step Hk.out hB hlo hbn, Ty.step Hv.out hB hlo hbn⟩ (Tn.s hl hB hlo (by assumption)) (Tn.s hr hB hlo (by assumption)) m0 (fun e w' => ∃ q, e = .returned (.pointer q) ∧ Below _ _ w' ∧ Tn B lo w' (.node k v l r) (.pointer q) ∧ lo ≤ w'.heap.size) (fun w' p' k1 k2 => by obtain ⟨q, rfl⟩ := Nd.ptr k2; exact ⟨q, rfl, k1, k2, Nat.le_trans (szS hlo (by assumption)) k1.size⟩)) ?_
               rintro e w' ⟨q, rfl, hb', ht', hsz⟩))
        all_goals go_wp2_with fail
        all_goals first | exact fin (hR _ _ (And.left (by assumption)) (by assumption) (by assumption)) rfl
end Go.Proofs.Ytmlcnfomiemdpaa
