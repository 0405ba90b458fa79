/- The document's number, as bytes. -/
import Derived.Test.YtomclldnoockcaaKey
import Derived.Laws.OwnMore
namespace Go.Proofs.Ytomclldnoockcaa
open Go.RowKit

theorem OwnB.lit1 (lo : Nat) (w : World) (c : UInt8) {x : Int} (hx : x = c.toNat) {n : Nat} (hn : n = w.heap.size) (hlo : lo ≤ w.heap.size) : OwnB lo (w.alloc (.cells #[.int .u8 x] 5)) (.slice (some ⟨n, 0, none⟩) 1 1) [c] := by
  subst hx hn
  exact World.ownsRow_lit (base := lo) (e := 5) (size := 1) w #[.int .u8 c.toNat] 1 hlo (by simp [maxLen]) rfl
theorem num8_drop (n : Int) (k : Nat) (hk : k < 8) : (num8 n).drop (7 - k) = UInt8.ofNat (u64 n / 256 ^ k) :: (num8 n).drop (8 - k) := by
  have h : 7 - k < (num8 n).length := by rw [num8_length]; omega
  rw [List.drop_eq_getElem_cons h, show 7 - k + 1 = 8 - k by omega]
  congr 1
  simp only [num8, List.getElem_map, List.getElem_range, dig8]
  have : 56 - 8 * (7 - k) = 8 * k := by omega
  rw [this, Nat.pow_mul]

set_option maxRecDepth 100000 in
set_option maxHeartbeats 4000000 in
theorem refNumber_any (n : Int) (w : World) (R : Ending → World → Prop)
    (hR : ∀ w' v', Below w.heap.size w w' → OwnB w.heap.size w' v' (num8 n) → R (.returned v') w') : Calls Try.prog 19 #[.int .i64 n] w R := by
  have HR := Lib.hid hR
  clear hR
  have hu : IntKind.u64.wrap (IntKind.u64.wrap n + 9223372036854775808) = (u64 n : Int) := by
    rw [IntKind.wrap_u64, IntKind.wrap_u64]; unfold u64; omega
  have hul := u64_lt n
  go_enter Try.func19, Try.ntmps19
  go_wp2_with fail
  go_loopw [3, 4, 5] (fun t3 t4 t5 wr => ∃ (k x : Nat), k ≤ 8 ∧ t5 = .int .i64 k ∧ t3 = .int .u64 x ∧ x < 18446744073709551616 ∧ x = u64 n / 256 ^ k ∧ Below w.heap.size w wr ∧ OwnB w.heap.size wr t4 ((num8 n).drop (8 - k))) (fun _ _ t5 _ => 8 - (intOf t5).toNat)
  case atStart => exact ⟨0, u64 n, by omega, rfl, rfl, by omega, by simp, Below.refl _ _, by rw [List.drop_of_length_le (by rw [num8_length]; omega)]; exact Own.nil _ _ _ _ _⟩
  case round =>
    obtain ⟨k, x, hk, rfl, rfl, hxl, hx, hB, ho⟩ := hrel
    have Hx := Lib.hid hx
    have Ho := Lib.hid ho
    clear hx ho
    by_cases hlt : k < 8
    · have hc : (x : Int) % 256 = ((UInt8.ofNat x).toNat : Int) := by
        simp only [UInt8.toNat_ofNat']; omega
      have Hc := Lib.hid hc
      clear hc
      go_wp2_with (at_builtin; refine AtApp.of ?_)
      have hB1 : Below wr.heap.size wr (wr.alloc (.cells #[.int .u8 ((x : Int) % 256)] 5)) := (Below.refl _ _).alloc (Nat.le_refl _) _
      have hs1 := hB.size
      have hlo1 := Nat.le_trans hs1 hB1.size
      have hln : ((num8 n).drop (8 - k)).length ≤ 8 := by rw [List.length_drop, num8_length]; omega
      obtain ⟨v2, w2, hr, ho2, ha2⟩ := appB (tx := 22) (ty := 22) (ys := (num8 n).drop (8 - k)) (OwnB.lit1 w.heap.size wr (UInt8.ofNat x) Hc.out rfl hs1) (Src.ofSl (OwnB.bytes (Own.kept Ho.out hB1)) (fun _ => rfl) (fun x u hu => by simp [bE] at hu; subst hu; rfl) Try.underlying22) (by simp only [List.length_cons, List.length_nil]; omega) hlo1
      refine AtApp.go hr rfl rfl rfl rfl ?_
      have hB2 := (hB.trans (hB1.mono hs1)).trans (ha2.below hlo1 (fun k e => by simp [Value.ownBlock] at e; subst e; exact hs1))
      have Ho2 := Lib.hid ho2
      have Hd := Lib.hid (num8_drop n k hlt)
      clear hr ho2 ha2
      have hq : IntKind.u64.wrap ((x : Int).tdiv 256) = ((x / 256 : Nat) : Int) := by rw [Int.tdiv_eq_ediv_of_nonneg (by omega), IntKind.wrap_u64]; omega
      go_wp2_with fail
      go_roundw
      case rel => exact ⟨k + 1, x / 256, by omega, by go_num, by go_num, by omega, by rw [Hx.out, Nat.div_div_eq_div_mul, Nat.pow_succ], hB2, by rw [show 8 - (k + 1) = 7 - k by omega, Hd.out, ← Hx.out]; exact Ho2.out⟩
      case measure => simp [intOf]; omega
    · have ho := Ho.out
      rw [show 8 - k = 0 by omega, List.drop_zero] at ho
      have hr := HR.out _ _ hB ho
      clear ho
      go_wp2_with fail
      first | exact hr | exact fin hr rfl
end Go.Proofs.Ytomclldnoockcaa
