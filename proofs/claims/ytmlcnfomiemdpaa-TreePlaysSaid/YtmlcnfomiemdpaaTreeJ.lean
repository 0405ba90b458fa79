/- Trees: a node between two others. -/
import Derived.Test.YtmlcnfomiemdpaaTree
import Derived.StillTailTactics
namespace Go.Proofs.Ytmlcnfomiemdpaa
open Go.RowKit

/-- A pair: the first two cells of a node. -/
def Pr (B : Nat → Prop) (lo : Nat) (w : World) (k v : List UInt8) (p : Value) : Prop := ∃ b kv vv, p = .pointer (some ⟨b, 0, none⟩) ∧ w.cell? ⟨b, 0, none⟩ = some kv ∧ w.cell? ⟨b, 1, none⟩ = some vv ∧ Ty B lo w kv k ∧ Ty B lo w vv v
theorem Tn.pr {B : Nat → Prop} {lo : Nat} {w : World} {k v : List UInt8} {l r : T} {p : Value} (h : Tn B lo w (.node k v l r) p) : Pr B lo w k v p := by
  obtain ⟨b, kv, vv, lp, rp, e, hb, hc, hk, hv, -, -⟩ := h
  exact ⟨b, kv, vv, e, hc.c6.1, hc.c6.2.1, hk, hv⟩

set_option maxRecDepth 100000 in
set_option maxHeartbeats 1000000 in
theorem join_p (B : Nat → Prop) (lo : Nat) (k v : List UInt8) (l r : T) (p pl pr : Value) (w : World) (hB : ∀ b, B b → b < lo) (hlo : lo ≤ w.heap.size) (hn : Pr B lo w k v p) (hl : Tn B lo w l pl) (hr : Tn B lo w r pr) (hm : l.many + r.many ≤ 1000000000000)
    (R : Ending → World → Prop) (hR : ∀ w' p', Below w.heap.size w w' → Tn B lo w' (.node k v l r) p' → R (.returned p') w') : Calls Try.prog 45 #[p, pl, pr] w R := by
  obtain ⟨b, kv, vv, rfl, h0, h1, hk, hv⟩ := hn
  have d1 := l.deep_le
  have d2 := r.deep_le
  have m1 : l.deep ≤ 1000000000000 := by omega
  have m2 : r.deep ≤ 1000000000000 := by omega
  have m3 : l.many ≤ 1000000000000 := by omega
  have m4 : r.many ≤ 1000000000000 := by omega
  clear d1 d2
  obtain ⟨ql, rfl⟩ := hl.ptr
  obtain ⟨qr, rfl⟩ := hr.ptr
  obtain ⟨ak, ck, rfl, -, -⟩ := hk.form
  obtain ⟨av, cv, rfl, -, -⟩ := hv.form
  have Hk := Lib.hid hk
  have Hv := Lib.hid hv
  have Hl := Lib.hid hl
  have Hr := Lib.hid hr
  clear hk hv
  have hd : Below w.heap.size w w.drew := (Below.refl _ _).drew
  have hl := hl.step hB hlo hd
  have hr := hr.step hB hlo hd
  go_enter Try.func45, Try.ntmps45
  go_wp2_with fail
  refine wp_region_still_tail 22 (by kernel_rfl) (by kernel_rfl) ?_
  change wpStill _ _ (World.drew _) (fun a' => wpList _ _ _ _ a' (World.drew _)) _ _
  simp only [List.take_succ_cons, List.take_zero, List.drop_succ_cons, List.drop_zero]
  repeat still_step
  still_call (deep_any _ l _ _ hl _ ⟨rfl, rfl⟩)
  repeat still_step
  still_call (deep_any _ r _ _ hr _ ⟨rfl, rfl⟩)
  repeat still_step
  still_call (many_any _ l _ _ hl _ ⟨rfl, rfl⟩)
  repeat still_step
  still_call (many_any _ r _ _ hr _ ⟨rfl, rfl⟩)
  repeat still_step
  refine wpStill_nil ?_
  go_wp2_with fail
  all_goals
    have hb1 : Below w.heap.size w (w.alloc (.cells [Value.slice ak k.length ck, Value.slice av v.length cv, Value.pointer ql, Value.pointer qr, Value.int IntKind.i64 ((1 + max l.deep r.deep : Nat) : Int), Value.int IntKind.i64 ((1 + l.many + r.many : Nat) : Int)].toArray 74)).drew := ((Below.refl _ _).alloc (Nat.le_refl _) _).drew
    have hc := (CellsAt.new w [Value.slice ak k.length ck, Value.slice av v.length cv, Value.pointer ql, Value.pointer qr, Value.int IntKind.i64 ((1 + max l.deep r.deep : Nat) : Int), Value.int IntKind.i64 ((1 + l.many + r.many : Nat) : Int)] 74).drew
    have hT := Tn.made (k := k) (v := v) (l := l) (r := r) (B := B) (lo := lo) (b := w.heap.size) hlo (by simp) hc rfl rfl (Ty.step Hk.out hB hlo hb1) (Ty.step Hv.out hB hlo hb1) (Tn.step Hl.out hB hlo hb1) (Tn.step Hr.out hB hlo hb1)
    have e := hR _ _ hb1 hT
    have e1 : ((1 + max l.deep r.deep : Nat) : Int) = 1 + (max l.deep r.deep : Nat) := by omega
    have e2 : ((1 + l.many + r.many : Nat) : Int) = 1 + ↑l.many + ↑r.many := by omega
    rw [e1, e2] at e
    first
      | (rw [show max l.deep r.deep = r.deep by omega] at e; exact e)
      | (rw [show max l.deep r.deep = l.deep by omega] at e; exact e)

theorem join_any (B : Nat → Prop) (lo : Nat) (k v : List UInt8) (x y l r : T) (p pl pr : Value) (w : World) (hB : ∀ b, B b → b < lo) (hlo : lo ≤ w.heap.size) (hn : Tn B lo w (.node k v x y) p) (hl : Tn B lo w l pl) (hr : Tn B lo w r pr) (hm : l.many + r.many ≤ 1000000000000)
    (R : Ending → World → Prop) (hR : ∀ w' p', Below w.heap.size w w' → Tn B lo w' (.node k v l r) p' → R (.returned p') w') : Calls Try.prog 45 #[p, pl, pr] w R :=
  join_p B lo k v l r p pl pr w hB hlo hn.pr hl hr hm R hR
end Go.Proofs.Ytmlcnfomiemdpaa
