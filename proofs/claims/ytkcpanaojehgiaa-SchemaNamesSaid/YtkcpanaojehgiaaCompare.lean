/- How two values stand: value.Compare, and the document's. -/
import Derived.Test.YtkcpanaojehgiaaValue
namespace Go.Proofs.Ytkcpanaojehgiaa
open Go.RowKit

set_option maxHeartbeats 1000000 in
set_option maxRecDepth 100000 in
theorem Compare_any (a b : V) (w : World) (R : Ending → World → Prop) (hR : ∀ w', Below w.heap.size w w' → R (.returned (.int .i64 (cmpV a b))) w') :
    Calls Try.prog 81 #[.agg #[.int .i64 a.kind, .int .i64 a.n, .string ⟨a.s.toArray⟩], .agg #[.int .i64 b.kind, .int .i64 b.n, .string ⟨b.s.toArray⟩]] w R := by
  go_enter Try.func81, Try.ntmps81
  go_wp2_with fail
  refine wp_region_still_tail 15 (by kernel_rfl) (by kernel_rfl) ?_
  change wpStill _ _ (World.drew _) (fun a' => wpList _ _ _ _ a' (World.drew _)) _ _
  simp only [List.take_succ_cons, List.take_zero, List.drop_succ_cons, List.drop_zero]
  repeat still_step
  still_call (cmp_int _ _ _ _ ⟨rfl, rfl⟩)
  repeat still_step
  still_call (cmp_int64 _ _ _ _ ⟨rfl, rfl⟩)
  repeat still_step
  still_call (strings_Compare _ _ _ _ ⟨rfl, rfl⟩)
  refine wpStill_nil ?_
  go_wp2_with fail
  refine Or3 _ _ _ _ _ ((CellsAt.newAt _ [.int .i64 (icmp a.kind b.kind), .int .i64 (icmp a.n b.n), .int .i64 (Lib.compareBytes a.s b.s)] _ (by simp)).drew) _ ?_
  have e : or3 (icmp a.kind b.kind) (icmp a.n b.n) (Lib.compareBytes a.s b.s) = cmpV a b := rfl
  rw [e]
  go_wp2_with fail
  exact ((((Below.refl _ _).alloc (Nat.le_refl _) _).alloc (by simp) _).alloc (by simp; omega) _).drew

set_option maxHeartbeats 1000000 in
set_option maxRecDepth 100000 in
theorem refCompare_any (a b : V) (w : World) (ha : a.s.length ≤ 9223372036854775807) (hb : b.s.length ≤ 9223372036854775807) (R : Ending → World → Prop) (hR : ∀ w', Below w.heap.size w w' → R (.returned (.int .i64 (cmpV a b))) w') :
    Calls Try.prog 72 #[.agg #[.int .i64 a.kind, .int .i64 a.n, .string ⟨a.s.toArray⟩], .agg #[.int .i64 b.kind, .int .i64 b.n, .string ⟨b.s.toArray⟩]] w R := by
  have hB0 : Below w.heap.size w ((w.alloc (.cells #[.int .i64 a.kind, .int .i64 a.n, .string ⟨a.s.toArray⟩] 47)).alloc (.cells #[.int .i64 b.kind, .int .i64 b.n, .string ⟨b.s.toArray⟩] 47)) :=
    ((Below.refl _ _).alloc (Nat.le_refl _) _).alloc (by simp) _
  by_cases h1 : a.kind < b.kind
  · rw [show cmpV a b = -1 by simp [cmpV, or3, icmp, h1]] at hR
    go_enter Try.func72, Try.ntmps72
    go_wp2_with fail
    all_goals exact hB0
  by_cases h2 : b.kind < a.kind
  · rw [show cmpV a b = 1 by simp [cmpV, or3, icmp, h1, h2]] at hR
    go_enter Try.func72, Try.ntmps72
    go_wp2_with fail
    all_goals exact hB0
  by_cases h3 : a.n < b.n
  · rw [show cmpV a b = -1 by simp [cmpV, or3, icmp, h1, h2, h3]] at hR
    go_enter Try.func72, Try.ntmps72
    go_wp2_with fail
    all_goals exact hB0
  by_cases h4 : b.n < a.n
  · rw [show cmpV a b = 1 by simp [cmpV, or3, icmp, h1, h2, h3, h4]] at hR
    go_enter Try.func72, Try.ntmps72
    go_wp2_with fail
    all_goals exact hB0
  rw [show cmpV a b = Lib.compareBytes a.s b.s by simp [cmpV, or3, icmp, h1, h2, h3, h4]] at hR
  go_enter Try.func72, Try.ntmps72
  go_wp2_with fail
  go_loopw [5] (fun t5 wr => ∃ k : Nat, k ≤ a.s.length ∧ k ≤ b.s.length ∧ t5 = .int .i64 k ∧ a.s.take k = b.s.take k ∧ ∃ nq, wr = (World.drewN ((w.alloc (.cells #[.int .i64 a.kind, .int .i64 a.n, .string ⟨a.s.toArray⟩] 47)).alloc (.cells #[.int .i64 b.kind, .int .i64 b.n, .string ⟨b.s.toArray⟩] 47)) nq))
    (fun t5 _ => a.s.length - (intOf t5).toNat)
  case atStart => exact ⟨0, Nat.zero_le _, Nat.zero_le _, rfl, rfl, 0, rfl⟩
  case round =>
    obtain ⟨k, hka, hkb, rfl, htake, nq, rfl⟩ := hrel
    have Htake := Lib.hid htake
    have HB : Below w.heap.size w _ := drewN hB0 nq
    clear htake hB0
    have Hcb := Lib.hid (compareBytes_take a.s b.s k Htake.out hka hkb)
    by_cases hla : k < a.s.length
    · by_cases hlb : k < b.s.length
      · have Hda := Lib.hid (List.drop_eq_getElem_cons hla)
        have Hdb := Lib.hid (List.drop_eq_getElem_cons hlb)
        have Hta := Lib.hid (List.take_succ_eq_append_getElem hla)
        have Htb := Lib.hid (List.take_succ_eq_append_getElem hlb)
        by_cases hxy : a.s[k].toNat < b.s[k].toNat
        · have Hx : Hid (a.s[k] < b.s[k]) := by rw [Hid, UInt8.lt_iff_toNat_lt]; omega
          go_wp2_with fail
          go_quiet (fail)
          go_wp2_with fail
          exact fin (hR _ (HB.trans (by repeat (first | exact Below.refl _ _ | apply drewN)))) (show Value.int _ _ = Value.int _ _ by rw [Hcb.out, Hda.out, Hdb.out]; simp [Lib.compareBytes, Hx.out])
        by_cases hyx : b.s[k].toNat < a.s[k].toNat
        · have Hx : Hid (¬ a.s[k] < b.s[k] ∧ b.s[k] < a.s[k]) := by rw [Hid, UInt8.lt_iff_toNat_lt, UInt8.lt_iff_toNat_lt]; omega
          go_wp2_with fail
          go_quiet (fail)
          go_wp2_with fail
          go_quiet (fail)
          go_wp2_with fail
          exact fin (hR _ (HB.trans (by repeat (first | exact Below.refl _ _ | apply drewN)))) (show Value.int _ _ = Value.int _ _ by rw [Hcb.out, Hda.out, Hdb.out]; simp [Lib.compareBytes, Hx.out])
        · have Hx : Hid (a.s[k] = b.s[k]) := by rw [Hid, ← UInt8.toNat_inj]; omega
          go_wp2_with fail
          go_quiet (fail)
          go_wp2_with fail
          go_quiet (fail)
          go_wp2_with fail
          go_roundw
          case rel => exact ⟨k + 1, by omega, by omega, by go_num, by rw [Hta.out, Htb.out, Htake.out, Hx.out], _, rfl⟩
          case measure => simp [intOf]; omega
      · have Hdb := Lib.hid (List.drop_eq_nil_of_le (show b.s.length ≤ k by omega))
        have Hda := Lib.hid (List.drop_eq_getElem_cons hla)
        go_wp2_with fail
        exact fin (hR _ HB) (show Value.int _ _ = Value.int _ _ by rw [Hcb.out, Hda.out, Hdb.out]; rfl)
    · have Hda := Lib.hid (List.drop_eq_nil_of_le (show a.s.length ≤ k by omega))
      by_cases hlb : k < b.s.length
      · have Hdb := Lib.hid (List.drop_eq_getElem_cons hlb)
        go_wp2_with fail
        exact fin (hR _ HB) (show Value.int _ _ = Value.int _ _ by rw [Hcb.out, Hda.out, Hdb.out]; rfl)
      · have Hdb := Lib.hid (List.drop_eq_nil_of_le (show b.s.length ≤ k by omega))
        go_wp2_with fail
        exact fin (hR _ HB) (show Value.int _ _ = Value.int _ _ by rw [Hcb.out, Hda.out, Hdb.out]; rfl)
end Go.Proofs.Ytkcpanaojehgiaa
