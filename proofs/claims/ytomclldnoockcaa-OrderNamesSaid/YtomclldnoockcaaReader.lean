/- The reader: take, number, text, value. -/
import Derived.Test.YtomclldnoockcaaReadP
import Derived.Test.YtomclldnoockcaaOnly
import Derived.Test.YtomclldnoockcaaKeyB
import Derived.Test.YtomclldnoockcaaRefNum
import Derived.Laws.Bits64b
namespace Go.Proofs.Ytomclldnoockcaa
open Go.RowKit

/-- 'make([]byte, n)'. -/
theorem run_mk (n : Nat) (hn : n ≤ 70000) (w : World) : (Instr.makeSlice 22 (.int .i64 (n : Int)) (.int .i64 (n : Int))).run Try.prog w =
    .ok (.slice (some ⟨w.heap.size, 0, none⟩) n n) (w.alloc (.cells ((List.replicate n (0 : UInt8)).flatMap bE).toArray 5)) := by
  obtain ⟨i0, hi, hz0, hz1, hz2⟩ := info_parts infoB
  have := run_makeSlice (P := Try.prog) w 22 5 i0 (.int .u8 0) Try.underlying22 hi hz0 .i64 .i64 (n : Int) (n : Int) (by omega) (Int.le_refl _) (by rw [hz1]; simp; omega) (by rw [hz2]; omega) (by omega)
  rw [this, hz1]
  simp only [Int.toNat_natCast, Nat.mul_one]
  have e : madeCells (Value.int IntKind.u8 0).cells n = ((List.replicate n (0 : UInt8)).flatMap bE).toArray := by
    apply Array.ext'
    rw [flatMap_bE, List.map_replicate]
    exact toList_madeCells_one _ n
  rw [e]
/-- Where a reader stands: the bytes that are left, and whether it is broken. -/
def RdAt (rb hi : Nat) (w : World) (rest : List UInt8) (bad : Bool) : Prop := ∃ sv, Blk w rb [sv, .bool bad] 63 ∧ Bytes 0 hi w sv rest
theorem RdAt.only {A : Nat → Prop} {rb hi : Nat} {w w' : World} {rest : List UInt8} {bad : Bool} (h : RdAt rb hi w rest bad) (ho : Only A w w') (hh : hi ≤ w.heap.size) (hA : ∀ k, A k → hi ≤ k) (hr : ¬ A rb) : RdAt rb hi w' rest bad := by
  obtain ⟨sv, hb, hs⟩ := h
  exact ⟨sv, ho.blk hb hr, hs.agree (flat_loc _) (ho.agree hh (fun k hk => .inr (hA k hk)))⟩

set_option maxRecDepth 100000 in
set_option maxHeartbeats 2000000 in
theorem take_any (rb hi n : Nat) (hn : n ≤ 100) (hn0 : 0 < n) (rest : List UInt8) (bad : Bool) (w : World) (h : RdAt rb hi w rest bad) (hrb : hi ≤ rb) (hhi : hi ≤ w.heap.size) (R : Ending → World → Prop)
    (hok : bad = false → n ≤ rest.length → ∀ w' v, Only (· = rb) w w' → RdAt rb hi w' (rest.drop n) false → Bytes 0 w'.heap.size w' v (rest.take n) → R (.returned v) w')
    (hbad : bad = true ∨ rest.length < n → ∀ w' v, Only (· = rb) w w' → RdAt rb hi w' rest true → Bytes 0 w'.heap.size w' v (List.replicate n 0) → R (.returned v) w') :
    Calls Try.prog 51 #[.pointer (some ⟨rb, 0, none⟩), .int .i64 n] w R := by
  obtain ⟨sv, hb, hs⟩ := h
  have hs0 := hs
  have Hs := Lib.hid hs
  have Hb := Lib.hid hb
  obtain ⟨ao, cap, rfl, h1, h2, -, hc⟩ := hs.form
  obtain ⟨c0, c1⟩ := hb.cells.c2
  have f0 := hb.free 0
  have f1 := hb.free 1
  have hlt := hb.lt
  simp only [Nat.zero_add] at c1
  have Hok := Lib.hid hok
  have Hbad := Lib.hid hbad
  clear hok hbad hs hb
  -- the broken way
  have Hgo : Hid (bad = true ∨ rest.length < n → R (.returned (.slice (some ⟨w.heap.size, 0, none⟩) n n)) ((w.setCell ⟨rb, 1, none⟩ (.bool true)).alloc (.cells ((List.replicate n (0 : UInt8)).flatMap bE).toArray 5))) := by
    intro hx
    have hsw : (w.setCell ⟨rb, 1, none⟩ (.bool true)).heap.size = w.heap.size := by simp [World.setCell]
    have hB : Below (w.setCell ⟨rb, 1, none⟩ (.bool true)).heap.size (w.setCell ⟨rb, 1, none⟩ (.bool true)) ((w.setCell ⟨rb, 1, none⟩ (.bool true)).alloc (.cells ((List.replicate n (0 : UInt8)).flatMap bE).toArray 5)) := (Below.refl _ _).alloc (Nat.le_refl _) _
    have ho : Only (· = rb) w (w.setCell ⟨rb, 1, none⟩ (.bool true)) := Only.setCell (A := (· = rb)) w (p := ⟨rb, 1, none⟩) rfl _
    have hb2 : Blk (w.setCell ⟨rb, 1, none⟩ (.bool true)) rb [.slice ao rest.length cap, .bool true] 63 := Hb.out.set 1 (.bool true)
    refine Hbad.out hx _ _ (ho.trans (Below.only hB)) ⟨_, hb2.below hB hb2.lt, (Hs.out.agree (flat_loc _) (ho.agree hhi (fun k hk => .inr (by omega)))).below (flat_loc _) hB (Nat.le_trans hhi ho.size)⟩ ?_
    have hcn := CellsAt.newAt (w.setCell ⟨rb, 1, none⟩ (.bool true)) ((List.replicate n (0 : UInt8)).flatMap bE) 5 rfl
    have := Bytes.ofCells (c := n) (lo := 0) (hi := (w.setCell ⟨rb, 1, none⟩ (.bool true)).heap.size + 1) hcn (Nat.zero_le _) (by omega) (by simp) (by simp only [maxLen]; omega)
    rw [List.length_replicate, hsw] at this
    rw [World.size_alloc, hsw]
    exact this
  have hmk := fun w => run_mk n (by omega) w
  cases bad with
  | true =>
    have hr := Hgo.out (.inl rfl)
    go_enter Try.func51, Try.ntmps51
    go_wp2_with fail
    first | exact hr | exact fin hr rfl
  | false =>
    by_cases hlen : n ≤ rest.length
    · rcases hs0.cases with ⟨rfl, -⟩ | ⟨hp, b, off, cap', e, -, -, hb1, hb2, hcc⟩
      · simp at hlen; omega
      cases e
      have hpt := Sl.piece (cap := cap) hcc hb1 hb2 0 n cap (by omega) (by omega) (by simp only [maxLen]; omega)
      rw [List.drop_zero, Nat.zero_mul, Nat.add_zero] at hpt
      have Hpt := Lib.hid hpt
      by_cases hcn : cap = n
      · subst hcn
        have hrl : rest.length = cap := by omega
        have hdr : rest.drop cap = [] := List.drop_eq_nil_of_le (by omega)
        have ho : Only (· = rb) w (w.setCell ⟨rb, 0, none⟩ (.slice (some ⟨b, off, none⟩) 0 0)) := Only.setCell (A := (· = rb)) w (p := ⟨rb, 0, none⟩) rfl _
        have hag := ho.agree (lo := 0) hhi (fun k hk => .inr (by omega))
        have hr := Hok.out rfl hlen _ (.slice (some ⟨b, off, none⟩) cap cap) ho ⟨_, Hb.out.set 0 _, by rw [hdr]; exact Sl.empty _ _ _ _ _ _ _ (by simp [maxLen]) (fun h => by cases h)⟩ ((Hpt.out.agree (flat_loc _) hag).mono (flat_loc _) (Nat.le_refl _) (Nat.le_trans hhi ho.size))
        have hz : (rest.length : Int) = cap := by omega
        clear hpt hcc hc Hgo hs0 hdr hag ho
        rw [hrl] at c0
        go_enter Try.func51, Try.ntmps51
        go_wp2_with fail
        first | exact hr | exact fin hr rfl
      have hpd := Sl.piece (cap := cap) hcc hb1 hb2 n (rest.length - n) (cap - n) (by omega) (by omega) (by simp only [maxLen]; omega)
      rw [Nat.mul_one, List.take_of_length_le (by simp)] at hpd
      have Hpd := Lib.hid hpd
      have ho : Only (· = rb) w (w.setCell ⟨rb, 0, none⟩ (.slice (some ⟨b, off + n, none⟩) (rest.length - n) (cap - n))) := Only.setCell (A := (· = rb)) w (p := ⟨rb, 0, none⟩) rfl _
      have hag := ho.agree (lo := 0) hhi (fun k hk => .inr (by omega))
      have hr := Hok.out rfl hlen _ (.slice (some ⟨b, off, none⟩) n cap) ho ⟨_, Hb.out.set 0 _, Hpd.out.agree (flat_loc _) hag⟩ ((Hpt.out.agree (flat_loc _) hag).mono (flat_loc _) (Nat.le_refl _) (Nat.le_trans hhi ho.size))
      have hle : n ≤ cap := by omega
      clear hpt hpd hcc hc Hgo hs0
      go_enter Try.func51, Try.ntmps51
      go_wp2_with fail
      first | exact hr | exact fin hr rfl
    · have hr := Hgo.out (.inr (by omega))
      go_enter Try.func51, Try.ntmps51
      go_wp2_with fail
      first | exact hr | exact fin hr rfl

theorem or_byte (x : Nat) (c : UInt8) : (x * 256) ||| c.toNat = x * 256 + c.toNat := by
  have hc := c.toNat_lt
  have h := Nat.shiftLeft_add_eq_or_of_lt (a := x) (show c.toNat < 2 ^ 8 from hc)
  rw [Nat.shiftLeft_eq] at h
  exact h.symm
set_option maxRecDepth 100000 in
set_option maxHeartbeats 2000000 in
/-- The loop of number, over any eight bytes. -/
theorem rnumber_any (rb hi : Nat) (rest : List UInt8) (bad : Bool) (w : World) (h : RdAt rb hi w rest bad) (hrb : hi ≤ rb) (hhi : hi ≤ w.heap.size) (R : Ending → World → Prop)
    (hok : bad = false → 8 ≤ rest.length → ∀ w', Only (· = rb) w w' → RdAt rb hi w' (rest.drop 8) false → R (.returned (.int .i64 (numI (rest.take 8)))) w')
    (hbad : bad = true ∨ rest.length < 8 → ∀ w' x, Only (· = rb) w w' → RdAt rb hi w' rest true → R (.returned (.int .i64 x)) w') :
    Calls Try.prog 44 #[.pointer (some ⟨rb, 0, none⟩)] w R := by
  go_enter Try.func44, Try.ntmps44
  go_wp2_with fail
  refine take_any rb hi 8 (by omega) (by omega) rest bad w h hrb hhi _ (fun h1 h2 w1 v ho hr hb => ?_) (fun h1 w1 v ho hr hb => ?_)
  · have hlen : (rest.take 8).length = 8 := by rw [List.length_take]; omega
    have Hend := Lib.hid (hok h1 h2 w1 ho hr)
    clear hok hbad h hr ho
    generalize rest.take 8 = l at *
    obtain ⟨ao, cap, rfl, k1, k2, -, hc⟩ := hb.form
    rw [hlen] at k1 ⊢
    have Hc := Lib.hid hc
    have hc2 := Hc.out 0 (by omega)
    obtain ⟨b, off, rfl, hb1, hb2, hcc⟩ := hc2
    have Hcc := Lib.hid hcc
    clear hcc hc hb Hc
    go_wp2_with fail
    go_loopw [3, 9] (fun t3 t9 wr => ∃ k x : Nat, k ≤ 8 ∧ t9 = .int .i64 k ∧ t3 = .int .u64 x ∧ x = val8 (l.take k) ∧ wr = w1) (fun _ t9 _ => 8 - (intOf t9).toNat)
    case atStart => exact ⟨0, 0, by omega, rfl, rfl, rfl, rfl⟩
    case round =>
      obtain ⟨k, x, hk, rfl, rfl, hx, rfl⟩ := hrel
      have Hx := Lib.hid hx
      by_cases hlt : k < 8
      · have hkl : k < l.length := by omega
        obtain ⟨cs, -, hcs, e⟩ := Hcc.out k hkl
        subst e
        have g0 := hcs.c1
        rw [Nat.mul_one] at g0
        have hxl := val8_lt (l.take k)
        rw [← hx, List.length_take, Nat.min_eq_left (by omega)] at hxl
        have hx2 : x < 72057594037927936 := Nat.lt_of_lt_of_le hxl (Nat.le_trans (Nat.pow_le_pow_right (by decide) (show k ≤ 7 by omega)) (by decide))
        have Hs := Lib.hid (by rw [List.take_succ_eq_append_getElem hkl, val8_snoc, ← hx] : val8 (l.take (k + 1)) = x * 256 + l[k].toNat)
        have hcl := l[k].toNat_lt
        have hb := bits_or_u64_nat (x * 256) l[k].toNat (by omega) (by omega)
        rw [or_byte, Int.natCast_mul] at hb
        have hb' : bits BinOp.or IntKind.u64 ((x : Int) * 256) (l[k].toNat : Int) = ((x * 256 + l[k].toNat : Nat) : Int) := hb
        clear hcs hx hxl hb
        go_wp2_with fail
        go_roundw
        case rel => exact ⟨k + 1, x * 256 + l[k].toNat, by omega, by go_num, by go_num, Hs.out.symm, by first | rfl | trivial⟩
        case measure => simp [intOf]; omega
      · have hx8 := Hx.out
        rw [List.take_of_length_le (by omega)] at hx8
        have hxl := val8_lt l
        rw [← hx8, hlen] at hxl
        have hr := Hend.out
        rw [numI, ← hx8] at hr
        have hb := bits_xor_u64_nat x 9223372036854775808 (by simpa using hxl) (by decide)
        have hx1 : x ^^^ 9223372036854775808 = (9223372036854775808 + x) % 18446744073709551616 := xor_top x (by simpa using hxl)
        rw [hx1] at hb
        have hb' : bits BinOp.xor IntKind.u64 (x : Int) 9223372036854775808 = (((9223372036854775808 + x) % 18446744073709551616 : Nat) : Int) := hb
        have hw : IntKind.i64.wrap (((9223372036854775808 + x) % 18446744073709551616 : Nat) : Int) = (x : Int) - 9223372036854775808 := by rw [IntKind.wrap_i64]; omega
        generalize (9223372036854775808 + x) % 18446744073709551616 = y at *
        clear hx hxl hx8 hb hx1
        go_wp2_with fail
        first | exact hr | exact fin hr (by rw [hb', hw]) | exact fin hr (by congr 1; rw [hb', hw])
  · have Hend := Lib.hid (fun x => hbad h1 w1 x ho hr)
    clear hok hbad h hr ho
    have hlen : (List.replicate 8 (0 : UInt8)).length = 8 := by simp
    generalize List.replicate 8 (0 : UInt8) = l at *
    obtain ⟨ao, cap, rfl, k1, k2, -, hc⟩ := hb.form
    rw [hlen] at k1 ⊢
    have Hc := Lib.hid hc
    have hc2 := Hc.out 0 (by omega)
    obtain ⟨b, off, rfl, hb1, hb2, hcc⟩ := hc2
    have Hcc := Lib.hid hcc
    clear hcc hc hb Hc
    go_wp2_with fail
    go_loopw [3, 9] (fun t3 t9 wr => ∃ k : Nat, ∃ x : Int, k ≤ 8 ∧ t9 = .int .i64 k ∧ t3 = .int .u64 x ∧ wr = w1) (fun _ t9 _ => 8 - (intOf t9).toNat)
    case atStart => exact ⟨0, 0, by omega, rfl, rfl, rfl⟩
    case round =>
      obtain ⟨k, x, hk, rfl, rfl, rfl⟩ := hrel
      by_cases hlt : k < 8
      · have hkl : k < l.length := by omega
        obtain ⟨cs, -, hcs, e⟩ := Hcc.out k hkl
        subst e
        have g0 := hcs.c1
        rw [Nat.mul_one] at g0
        clear hcs
        go_wp2_with fail
        go_roundw
        case rel => exact ⟨k + 1, _, by omega, by go_num, rfl, by first | rfl | trivial⟩
        case measure => simp [intOf]; omega
      · have hr := Hend.out
        go_wp2_with fail
        first | exact hr _ | exact fin (hr _) rfl
end Go.Proofs.Ytomclldnoockcaa
