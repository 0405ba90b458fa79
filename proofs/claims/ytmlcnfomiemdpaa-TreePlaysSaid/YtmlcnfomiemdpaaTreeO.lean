/- Calls of a tree's law: where they lie; are they too great? -/
import Derived.Test.YtmlcnfomiemdpaaTreeG
import Derived.Test.YtmlcnfomiemdpaaTreeQ
namespace Go.Proofs.Ytmlcnfomiemdpaa
open Go.RowKit
attribute [local go_sem ↓] Go.wp_at_zero Go.wp_at_succ

structure OpV where
  kind : Int
  frm : Int
  key : List UInt8
  value : List UInt8
  to : List UInt8
  n : Int
instance : Inhabited OpV := ⟨⟨0, 0, [], [], [], 0⟩⟩
def opE : El OpV := fun lo hi w cs o => ∃ kv vv tv, cs = [.int .i64 o.kind, .int .u16 o.frm, kv, vv, tv, .int .i64 o.n] ∧ Bytes lo hi w kv o.key ∧ Bytes lo hi w vv o.value ∧ Bytes lo hi w tv o.to
theorem opE_loc : Loc opE where
  agree := fun ⟨kv, vv, tv, e, h1, h2, h3⟩ ha => ⟨kv, vv, tv, e, h1.agree (flat_loc _) ha, h2.agree (flat_loc _) ha, h3.agree (flat_loc _) ha⟩
  mono := fun ⟨kv, vv, tv, e, h1, h2, h3⟩ k1 k2 => ⟨kv, vv, tv, e, h1.mono (flat_loc _) k1 k2, h2.mono (flat_loc _) k1 k2, h3.mono (flat_loc _) k1 k2⟩
def OpV.great (o : OpV) : Bool := decide (5000 < o.key.length) || decide (70000 < o.value.length) || decide (5000 < o.to.length)

set_option maxRecDepth 100000 in
set_option maxHeartbeats 2000000 in
theorem great_any (lo hi : Nat) (l : List OpV) (v : Value) (w : World) (hv : Sl opE 6 lo hi w v l) (R : Ending → World → Prop)
    (hR : R (.returned (.bool (decide (100 < l.length) || l.any OpV.great))) w) : Calls Try.prog 9 #[v] w R := by
  obtain ⟨ao, cap, rfl, hl1, hl2, -, hc⟩ := hv.form
  have Hc := Lib.hid hc
  clear hc
  by_cases g : 100 < l.length
  · have hr : R (.returned (.bool true)) w := by simpa [g] using hR
    go_enter Try.func9, Try.ntmps9
    go_wp2
    first | exact hr | exact fin hr rfl
  rw [decide_eq_false g, Bool.false_or] at hR
  go_enter Try.func9, Try.ntmps9
  go_wp2
  go_loopw [9] (fun t9 wr => ∃ k : Nat, k ≤ l.length ∧ t9 = .int .i64 k ∧ wr = w ∧ (l.take k).any OpV.great = false) (fun t9 _ => l.length - (intOf t9).toNat)
  case atStart => exact ⟨0, Nat.zero_le _, rfl, rfl, rfl⟩
  case round =>
    obtain ⟨k, hk, rfl, rfl, hf⟩ := hrel
    have Hf := Lib.hid hf
    clear hf
    by_cases hlt : k < l.length
    · obtain ⟨b, off, rfl, hb1, hb2, hcc⟩ := Hc.out k hlt
      obtain ⟨cs, -, hcs, kv, vv, tv, rfl, h1, h2, h3⟩ := hcc k hlt
      obtain ⟨c0, c1, c2, c3, c4, c5⟩ := hcs.c6
      clear hcs hcc
      obtain ⟨a1, p1, rfl, -, -, -⟩ := h1.form
      obtain ⟨a2, p2, rfl, -, -, -⟩ := h2.form
      obtain ⟨a3, p3, rfl, -, -, -⟩ := h3.form
      have hs := any_take_succ l OpV.great k hlt
      rw [Hf.out, Bool.false_or] at hs
      by_cases hg : OpV.great l[k] = true
      · have hr : R (.returned (.bool true)) wr := by
          have : l.any OpV.great = true := List.any_eq_true.2 ⟨l[k], List.getElem_mem hlt, hg⟩
          rwa [this] at hR
        have hg' := hg
        simp only [OpV.great, Bool.or_eq_true, decide_eq_true_eq] at hg'
        clear hs hR
        by_cases q1 : 5000 < l[k].key.length
        · go_wp2
          all_goals first | exact hr | exact fin hr rfl | (exfalso; omega)
        by_cases q2 : 70000 < l[k].value.length
        · go_wp2
          all_goals first | exact hr | exact fin hr rfl | (exfalso; omega)
        have q3 : 5000 < l[k].to.length := by omega
        go_wp2
        all_goals first | exact hr | exact fin hr rfl | (exfalso; omega)
      · rw [Bool.not_eq_true] at hg
        rw [hg] at hs
        have Hs := Lib.hid hs
        have hg' := hg
        simp only [OpV.great, Bool.or_eq_false_iff, decide_eq_false_iff_not] at hg'
        obtain ⟨⟨q1, q2⟩, q3⟩ := hg'
        clear hs hg
        go_wp2
        go_roundw
        case rel => exact ⟨k + 1, by omega, by go_num, by first | rfl | trivial, Hs.out⟩
        case measure => simp [intOf]; omega
    · have hr : R (.returned (.bool false)) wr := by
        have h := Hf.out
        rw [List.take_of_length_le (by omega)] at h
        rwa [h] at hR
      go_wp2
      first | exact hr | exact fin hr rfl
end Go.Proofs.Ytmlcnfomiemdpaa
