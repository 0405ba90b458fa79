/- daybooklaw21.ints, reads. -/
import Derived.Test.YtfmpafheodpfoaaDiskOk
namespace Go.Proofs.Ytfmpafheodpfoaa
open Go.RowKit Go.Shelf
attribute [local go_sem ↓] Go.wp_at_zero Go.wp_at_succ

abbrev Ns := Sl (flat iE) 1
set_option maxRecDepth 100000 in
set_option maxHeartbeats 4000000 in
theorem ints_any (la ha lb hb : Nat) (a b : List Nat) (va vb : Value) (w : World) (sa : Ns la ha w va a) (sb : Ns lb hb w vb b) (h1 : ha ≤ w.heap.size) (h2 : hb ≤ w.heap.size) (R : Ending → World → Prop)
    (hR : ∀ w', Below w.heap.size w w' → R (.returned (.bool (decide (a = b)))) w') : Calls Try.prog 28 #[va, vb] w R := by
  obtain ⟨ao, cap, rfl, p1, p2, -, hca⟩ := sa.form
  obtain ⟨ao2, cap2, rfl, p3, p4, -, hcb⟩ := sb.form
  have Hca := Lib.hid hca
  have Hcb := Lib.hid hcb
  have HR := Lib.hid hR
  clear hca hcb hR sa sb
  by_cases hl : a.length = b.length
  · have hl' : (a.length : Int) = (b.length : Int) := by omega
    go_enter Try.func28, Try.ntmps28
    go_wp2_with fail
    go_loopw [13] (fun t13 wr => ∃ k : Nat, k ≤ b.length ∧ t13 = .int .i64 k ∧ a.take k = b.take k ∧ Below w.heap.size w wr) (fun t13 _ => b.length - (intOf t13).toNat)
    case atStart => exact ⟨0, Nat.zero_le _, rfl, rfl, Below.refl _ _⟩
    case round =>
      obtain ⟨k, hk, rfl, ht, hB⟩ := hrel
      have Ht := Lib.hid ht
      have HB := Lib.hid hB
      clear ht hB
      by_cases hlt : k < b.length
      · have hla : k < a.length := by omega
        obtain ⟨b1, off1, e1, -, q1, hc1⟩ := Hca.out k hla
        obtain ⟨b2, off2, e2, -, q2, hc2⟩ := Hcb.out k hlt
        obtain ⟨cs1, -, hcs1, f1⟩ := hc1 k hla
        obtain ⟨cs2, -, hcs2, f2⟩ := hc2 k hlt
        have f1' : cs1 = iE a[k] := f1
        have f2' : cs2 = iE b[k] := f2
        subst f1' f2' e1 e2
        have g1 := hcs1.c1
        have g2 := hcs2.c1
        rw [Nat.mul_one] at g1 g2
        replace g1 := (World.cell?_of_block (HB.out.block b1 (by omega))).trans g1
        replace g2 := (World.cell?_of_block (HB.out.block b2 (by omega))).trans g2
        have Hta := Lib.hid (List.take_succ_eq_append_getElem hla)
        have Htb := Lib.hid (List.take_succ_eq_append_getElem hlt)
        clear hc1 hc2 hcs1 hcs2 f1 f2
        by_cases hx : a[k] = b[k]
        · have hx' : (a[k] : Int) = (b[k] : Int) := by omega
          generalize a[k] = x at *
          generalize b[k] = y at *
          subst hx
          have Hd := Lib.hid (show a.take (k + 1) = b.take (k + 1) by rw [Hta.out, Htb.out, Ht.out])
          clear hx'
          go_wp2_with fail
          go_quiet (fail)
          go_wp2_with fail
          go_roundw
          case rel => exact ⟨k + 1, by omega, by go_num, Hd.out, drewN HB.out _⟩
          case measure => simp [intOf]; omega
        · have hx' : ¬ (a[k] : Int) = (b[k] : Int) := by omega
          have hne : decide (a = b) = false := decide_eq_false (fun e => hx (by subst e; rfl))
          have Hr : Hid (∀ w', Below w.heap.size w w' → R (.returned (.bool false)) w') := fun w' hB => by have := HR.out w' hB; rwa [hne] at this
          clear hne
          generalize a[k] = x at *
          generalize b[k] = y at *
          go_wp2_with fail
          go_quiet (fail)
          go_wp2_with fail
          exact fin (Hr.out _ (drewN HB.out _)) rfl
      · have hr : R (.returned (.bool true)) wr := by
          have h1 := Ht.out
          rw [List.take_of_length_le (by omega), List.take_of_length_le (by omega)] at h1
          have := HR.out wr HB.out
          rwa [decide_eq_true h1] at this
        have hla : ¬ k < a.length := by omega
        go_wp2_with fail
        first | exact hr | exact fin hr rfl
  · have hl' : ¬ (a.length : Int) = (b.length : Int) := by omega
    have hr : R (.returned (.bool false)) w := by
      have := HR.out w (Below.refl _ _)
      rwa [decide_eq_false (fun e => hl (by rw [e]))] at this
    go_enter Try.func28, Try.ntmps28
    go_wp2_with fail
    first | exact hr | exact fin hr rfl

set_option maxRecDepth 100000 in
set_option maxHeartbeats 4000000 in
theorem reads_any (S : Nat → Prop) (lo hi db : Nat) (d : Dk) (n k i : Nat) (b : List UInt8) (v : Value) (w : World) (h : DkAt w S db d) (hk : Calm d n k) (hi' : i < n) (hv : Bytes lo hi w v b) (hhi : hi ≤ w.heap.size) (R : Ending → World → Prop)
    (hR : ∀ w', Below w.heap.size w w' → R (.returned (.bool (d.last i == b))) w') : Calls Try.prog 26 #[.pointer (some ⟨db, 0, none⟩), .int .i64 i, v] w R := by
  have Hv := Lib.hid hv
  obtain ⟨ao, cap, rfl, p1, p2, -, -⟩ := hv.form
  clear hv
  go_enter Try.func26, Try.ntmps26
  go_wp2_with fail
  refine Read_ok S db d n k i w h hk hi' _ (fun w1 v1 hB1 ho => ?_)
  have hc1 := str ho.bytes
  have hc2 := str (Sl.below Hv.out (flat_loc _) hB1 hhi)
  have hr := hR w1 hB1
  generalize d.last i = x at *
  clear ho hR
  go_wp2_with fail
  all_goals first | exact hr | exact fin hr rfl
end Go.Proofs.Ytfmpafheodpfoaa
