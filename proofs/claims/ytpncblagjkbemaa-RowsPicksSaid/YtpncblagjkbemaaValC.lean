/- The walks of package value, of cmp and strings as it calls them, and of the document's answer for values. -/
import Derived.Test.YtpncblagjkbemaaProg
import Derived.Test.YtpncblagjkbemaaValueP
import Derived.StillTailTactics
namespace Go.Proofs.Ytpncblagjkbemaa
open Go.RowKit

set_option maxRecDepth 100000 in
theorem isNaN_int (x : Int) (w : World) (R : Ending → World → Prop) (hR : R (.returned (.bool false)) w) : Calls Try.prog 110 #[.int .i64 x] w R := by
  go_enter Try.func110, Try.ntmps110
  go_wp2
  exact hR
set_option maxRecDepth 100000 in
theorem isNaN_int64 (x : Int) (w : World) (R : Ending → World → Prop) (hR : R (.returned (.bool false)) w) : Calls Try.prog 128 #[.int .i64 x] w R := by
  go_enter Try.func128, Try.ntmps128
  go_wp2
  exact hR

set_option maxRecDepth 100000 in
theorem cmp_int (x y : Int) (w : World) (R : Ending → World → Prop) (hR : R (.returned (.int .i64 (icmp x y))) w) : Calls Try.prog 65 #[.int .i64 x, .int .i64 y] w R := by
  go_enter Try.func65, Try.ntmps65
  go_wp2_with fail
  refine isNaN_int _ _ _ ?_
  go_wp2_with fail
  refine isNaN_int _ _ _ ?_
  go_wp2_with fail
  all_goals exact fin hR (by simp [icmp, *] <;> omega)
set_option maxRecDepth 100000 in
theorem cmp_int64 (x y : Int) (w : World) (R : Ending → World → Prop) (hR : R (.returned (.int .i64 (icmp x y))) w) : Calls Try.prog 108 #[.int .i64 x, .int .i64 y] w R := by
  go_enter Try.func108, Try.ntmps108
  go_wp2_with fail
  refine isNaN_int64 _ _ _ ?_
  go_wp2_with fail
  refine isNaN_int64 _ _ _ ?_
  go_wp2_with fail
  all_goals exact fin hR (by simp [icmp, *] <;> omega)

set_option maxRecDepth 100000 in
theorem CompareString (a b : List UInt8) (w : World) (R : Ending → World → Prop) (hR : R (.returned (.int .i64 (Lib.compareBytes a b))) w) : Calls Try.prog 129 #[.string ⟨a.toArray⟩, .string ⟨b.toArray⟩] w R := by
  go_enter Try.func129, Try.ntmps129
  go_wp2
  rw [run_callFunc_extern Try.func135 (by kernel_rfl) (by kernel_rfl) (by kernel_rfl) (e := Extern.BytealgCompare.compare) (by kernel_rfl), Lib.run_compareString]
  simp only [Result.andThen]
  rw [Oper.upon_value]
  go_wp2
  exact hR
set_option maxRecDepth 100000 in
theorem strings_Compare (a b : List UInt8) (w : World) (R : Ending → World → Prop) (hR : R (.returned (.int .i64 (Lib.compareBytes a b))) w) : Calls Try.prog 109 #[.string ⟨a.toArray⟩, .string ⟨b.toArray⟩] w R := by
  go_enter Try.func109, Try.ntmps109
  go_wp2_with fail
  refine CompareString _ _ _ _ ?_
  go_wp2
  exact hR

set_option maxRecDepth 100000 in
/-- cmp.Or of three. -/
theorem Or3 (g : Nat) (a b c : Int) (w : World) (h : CellsAt w g 0 [.int .i64 a, .int .i64 b, .int .i64 c]) (R : Ending → World → Prop) (hR : R (.returned (.int .i64 (or3 a b c))) w) :
    Calls Try.prog 107 #[.slice (some ⟨g, 0, none⟩) 3 3] w R := by
  obtain ⟨h0, h1, h2⟩ := h.c3
  clear h
  go_enter Try.func107, Try.ntmps107
  go_wp2
  go_loop [5, 8] (fun _ t8 => ∃ k : Nat, k ≤ 3 ∧ t8 = .int .i64 k ∧ (0 < k → a = 0) ∧ (1 < k → b = 0) ∧ (2 < k → c = 0)) (fun _ t8 => 3 - (intOf t8).toNat)
  case atStart => exact ⟨0, by omega, rfl, by omega, by omega, by omega⟩
  case round =>
    obtain ⟨k, hk, rfl, k1, k2, k3⟩ := hrel
    have H : Hid (or3 a b c = if a ≠ 0 then a else if b ≠ 0 then b else c) := rfl
    by_cases e0 : k = 0
    · subst e0
      clear k1 k2 k3
      go_wp2_with fail
      · exact fin hR (show Value.int _ _ = Value.int _ _ by rw [H.out, if_pos (by simpa using (by assumption : (a != 0) = true))])
      · go_round
        case rel =>
          have q : (a != 0) = false := by assumption
          exact ⟨1, by omega, by go_num, fun _ => by simpa using q, by omega, by omega⟩
        case measure => simp [intOf]
    by_cases e1 : k = 1
    · subst e1
      have K1 := Lib.hid (k1 (by omega))
      clear k1 k2 k3
      go_wp2_with fail
      · exact fin hR (show Value.int _ _ = Value.int _ _ by rw [H.out, if_neg (by simp [K1.out]), if_pos (by simpa using (by assumption : (b != 0) = true))])
      · go_round
        case rel =>
          have q : (b != 0) = false := by assumption
          exact ⟨2, by omega, by go_num, fun _ => K1.out, fun _ => by simpa using q, by omega⟩
        case measure => simp [intOf]
    by_cases e2 : k = 2
    · subst e2
      have K1 := Lib.hid (k1 (by omega))
      have K2 := Lib.hid (k2 (by omega))
      clear k1 k2 k3
      go_wp2_with fail
      · exact fin hR (show Value.int _ _ = Value.int _ _ by rw [H.out, if_neg (by simp [K1.out]), if_neg (by simp [K2.out])])
      · go_round
        case rel =>
          have q : (c != 0) = false := by assumption
          exact ⟨3, by omega, by go_num, fun _ => K1.out, fun _ => K2.out, fun _ => by simpa using q⟩
        case measure => simp [intOf]
    · obtain rfl : k = 3 := by omega
      have K1 := Lib.hid (k1 (by omega))
      have K2 := Lib.hid (k2 (by omega))
      have K3 := Lib.hid (k3 (by omega))
      clear k1 k2 k3
      go_wp2_with fail
      exact fin hR (show Value.int _ _ = Value.int _ _ by rw [H.out, if_neg (by simp [K1.out]), if_neg (by simp [K2.out]), K3.out])

end Go.Proofs.Ytpncblagjkbemaa
