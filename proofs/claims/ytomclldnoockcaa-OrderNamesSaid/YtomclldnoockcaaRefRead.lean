/- The document's reading of bytes: a number, a value. -/
import Derived.Test.YtomclldnoockcaaReadText
import Derived.Test.YtomclldnoockcaaRefKey
namespace Go.Proofs.Ytomclldnoockcaa
open Go.RowKit

set_option maxRecDepth 100000 in
set_option maxHeartbeats 4000000 in
theorem refnumber_any (hi : Nat) (v : Value) (l : List UInt8) (w : World) (hb : Bytes 0 hi w v l) (h8 : 8 ≤ l.length) (R : Ending → World → Prop) (hR : R (.returned (.int .i64 (numI (l.take 8)))) w) :
    Calls Try.prog 33 #[v] w R := by
  obtain ⟨ao, cap, rfl, k1, k2, -, hc⟩ := hb.form
  have Hc := Lib.hid hc
  obtain ⟨b, off, rfl, hb1, hb2, hcc⟩ := Hc.out 0 (by omega)
  have Hcc := Lib.hid hcc
  have Hend := Lib.hid hR
  clear hcc hc hb Hc hR
  go_enter Try.func33, Try.ntmps33
  go_wp2_with fail
  go_loopw [3, 4] (fun t3 t4 wr => ∃ k x : Nat, k ≤ 8 ∧ t4 = .int .i64 k ∧ t3 = .int .u64 x ∧ x = val8 (l.take k) ∧ wr = w) (fun _ t4 _ => 8 - (intOf t4).toNat)
  case atStart => exact ⟨0, 0, by omega, rfl, rfl, rfl, rfl⟩
  case round =>
    obtain ⟨k, x, hk, rfl, rfl, hx, rfl⟩ := hrel
    have Hx := Lib.hid hx
    by_cases hlt : k < 8
    · have hkl : k < l.length := by omega
      obtain ⟨cs, -, hcs, e⟩ := Hcc.out k hkl
      subst e
      have g0 := hcs.c1
      rw [Nat.mul_one] at g0
      have hxl := val8_lt (l.take k)
      rw [← hx, List.length_take, Nat.min_eq_left (by omega)] at hxl
      have hx2 : x < 72057594037927936 := Nat.lt_of_lt_of_le hxl (Nat.le_trans (Nat.pow_le_pow_right (by decide) (show k ≤ 7 by omega)) (by decide))
      have Hs := Lib.hid (by rw [List.take_succ_eq_append_getElem hkl, val8_snoc, ← hx] : val8 (l.take (k + 1)) = x * 256 + l[k].toNat)
      have hcl := l[k].toNat_lt
      have e1 : IntKind.u64.wrap ((x : Int) * 256) = (x : Int) * 256 := by rw [IntKind.wrap_u64]; omega
      have e2 : IntKind.u64.wrap ((x : Int) * 256 + (l[k].toNat : Int)) = (x : Int) * 256 + (l[k].toNat : Int) := by rw [IntKind.wrap_u64]; omega
      clear hcs hx hxl
      go_wp2_with fail
      go_roundw
      case rel => exact ⟨k + 1, x * 256 + l[k].toNat, by omega, by go_num, by go_num, Hs.out.symm, by first | rfl | trivial⟩
      case measure => simp [intOf]; omega
    · have hx8 := Hx.out
      rw [show k = 8 by omega] at hx8
      have hxl := val8_lt (l.take 8)
      rw [← hx8, List.length_take, Nat.min_eq_left h8] at hxl
      have hr := Hend.out
      rw [numI, ← hx8] at hr
      have hxl2 : x < 18446744073709551616 := by simpa using hxl
      have e1 : IntKind.i64.wrap (IntKind.u64.wrap ((x : Int) - 9223372036854775808)) = (x : Int) - 9223372036854775808 := by rw [IntKind.wrap_u64, IntKind.wrap_i64]; omega
      clear hx hxl hx8
      go_wp2_with fail
      first | exact hr | exact fin hr (by rw [e1]) | exact fin hr (by congr 1)
end Go.Proofs.Ytomclldnoockcaa
