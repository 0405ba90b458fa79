/- The walk of OrderNames. (Printed by names02.py.) -/
import Derived.Test.YtomclldnoockcaaBack
import Derived.Test.YtomclldnoockcaaWrites
namespace Go.Proofs.Ytomclldnoockcaa
open Go.RowKit

theorem rk1 : readK [true] [2, 1] = some [⟨true, 0, ⟨2, 1, []⟩⟩] := by decide
theorem rk2 : readK [true] [2, 2] = none := by decide
theorem rk3 : readK [true] [2] = none := by decide
theorem rk4 : readK [true] [2, 1, 0] = none := by decide
theorem rk5 : readK [] [] = some [] := by decide
theorem litBytes {w w' : World} {n : Nat} {xs : List UInt8} (h : Blk w n (xs.flatMap bE) 5) (hB : Below w.heap.size w w') (hl : xs.length ≤ 1000) : Bytes 0 w'.heap.size w' (.slice (some ⟨n, 0, none⟩) xs.length xs.length) xs :=
  Bytes.ofCells (h.below hB h.lt).cells (Nat.zero_le _) (by have := h.lt; have := hB.size; omega) (Nat.le_refl _) (by simp only [maxLen]; omega)
theorem litBool {w w' : World} {n : Nat} (b : Bool) (h : Blk w n [.bool b] 4) (hB : Below w.heap.size w w') : Bools 0 w'.heap.size w' (.slice (some ⟨n, 0, none⟩) 1 1) [b] :=
  ⟨some ⟨n, 0, none⟩, 1, rfl, Nat.le_refl _, by simp [maxLen], (fun h => by cases h), fun _ => ⟨n, 0, rfl, Nat.zero_le _, by have := h.lt; have := hB.size; omega, fun k hk => by
    have hk0 : k = 0 := by simpa using hk
    subst hk0
    exact ⟨[.bool b], rfl, by rw [Nat.zero_mul, Nat.add_zero]; exact (h.below hB h.lt).cells, rfl⟩⟩⟩

set_option maxRecDepth 100000 in
set_option maxHeartbeats 8000000 in
theorem OrderNames_any (w : World) (R : Ending → World → Prop) (hR : ∀ w', Below w.heap.size w w' → R (.returned (.bool true)) w') : Calls Try.prog 8 #[] w R := by
  have HR := Lib.hid hR
  clear hR
  have hB0 : Below w.heap.size w w := Below.refl _ _
  go_enter Try.func8, Try.ntmps8
  go_wp2_with fail
  have a1 : Blk (w.alloc (.cells #[.int .u8 2, .int .u8 1] 5)) w.heap.size (([2, 1] : List UInt8).flatMap bE) 5 := Blk.new _ _ _ rfl
  have b1 : Blk ((w.alloc (.cells #[.int .u8 2, .int .u8 1] 5)).alloc (.cells #[.bool true] 4)) (w.heap.size + 1) [.bool true] 4 := Blk.new _ [.bool true] 4 (by simp)
  have c1 : Below (w.alloc (.cells #[.int .u8 2, .int .u8 1] 5)).heap.size (w.alloc (.cells #[.int .u8 2, .int .u8 1] 5)) ((w.alloc (.cells #[.int .u8 2, .int .u8 1] 5)).alloc (.cells #[.bool true] 4)) := (Below.refl _ _).alloc (Nat.le_refl _) _
  have e1 : Below w.heap.size w ((w.alloc (.cells #[.int .u8 2, .int .u8 1] 5)).alloc (.cells #[.bool true] 4)) := (hB0.alloc hB0.size _).alloc (by have := hB0.size; simp <;> omega) _
  refine Read_any _ _ [true] _ _ _ (litBytes a1 c1 (by simp)) (litBool true b1 (Below.refl _ _)) (Nat.le_refl _) (by simp) (by simp) _ (fun l hl w1 v1 hq1 ho1 => ?_) (fun h => by rw [rk1] at h; cases h)
  rw [rk1] at hl
  cases hl
  have hB1 : Below w.heap.size w w1 := e1.trans (hq1.mono e1.size)
  have g1 : Below w1.heap.size w1 w1 := Below.refl _ _
  have Ho1 := Lib.hid ho1
  clear ho1
  clear a1 b1 c1 e1 hq1
  go_wp2_with fail
  have a2 : Blk (w1.alloc (.cells #[.int .u8 2, .int .u8 2] 5)) w1.heap.size (([2, 2] : List UInt8).flatMap bE) 5 := Blk.new _ _ _ rfl
  have b2 : Blk ((w1.alloc (.cells #[.int .u8 2, .int .u8 2] 5)).alloc (.cells #[.bool true] 4)) (w1.heap.size + 1) [.bool true] 4 := Blk.new _ [.bool true] 4 (by simp)
  have c2 : Below (w1.alloc (.cells #[.int .u8 2, .int .u8 2] 5)).heap.size (w1.alloc (.cells #[.int .u8 2, .int .u8 2] 5)) ((w1.alloc (.cells #[.int .u8 2, .int .u8 2] 5)).alloc (.cells #[.bool true] 4)) := (Below.refl _ _).alloc (Nat.le_refl _) _
  have e2 : Below w.heap.size w ((w1.alloc (.cells #[.int .u8 2, .int .u8 2] 5)).alloc (.cells #[.bool true] 4)) := (hB1.alloc hB1.size _).alloc (by have := hB1.size; simp <;> omega) _
  have f2 : Below w1.heap.size w1 ((w1.alloc (.cells #[.int .u8 2, .int .u8 2] 5)).alloc (.cells #[.bool true] 4)) := (g1.alloc g1.size _).alloc (by have := g1.size; simp <;> omega) _
  refine Read_any _ _ [true] _ _ _ (litBytes a2 c2 (by simp)) (litBool true b2 (Below.refl _ _)) (Nat.le_refl _) (by simp) (by simp) _ (fun l hl => by rw [rk2] at hl; cases hl) (fun _ w2 hq2 => ?_)
  have hB2 : Below w.heap.size w w2 := e2.trans (hq2.mono e2.size)
  have g2 : Below w1.heap.size w1 w2 := f2.trans (hq2.mono f2.size)
  clear a2 b2 c2 e2 hq2 f2
  go_wp2_with fail
  have a3 : Blk (w2.alloc (.cells #[.int .u8 2] 5)) w2.heap.size (([2] : List UInt8).flatMap bE) 5 := Blk.new _ _ _ rfl
  have b3 : Blk ((w2.alloc (.cells #[.int .u8 2] 5)).alloc (.cells #[.bool true] 4)) (w2.heap.size + 1) [.bool true] 4 := Blk.new _ [.bool true] 4 (by simp)
  have c3 : Below (w2.alloc (.cells #[.int .u8 2] 5)).heap.size (w2.alloc (.cells #[.int .u8 2] 5)) ((w2.alloc (.cells #[.int .u8 2] 5)).alloc (.cells #[.bool true] 4)) := (Below.refl _ _).alloc (Nat.le_refl _) _
  have e3 : Below w.heap.size w ((w2.alloc (.cells #[.int .u8 2] 5)).alloc (.cells #[.bool true] 4)) := (hB2.alloc hB2.size _).alloc (by have := hB2.size; simp <;> omega) _
  have f3 : Below w1.heap.size w1 ((w2.alloc (.cells #[.int .u8 2] 5)).alloc (.cells #[.bool true] 4)) := (g2.alloc g2.size _).alloc (by have := g2.size; simp <;> omega) _
  refine Read_any _ _ [true] _ _ _ (litBytes a3 c3 (by simp)) (litBool true b3 (Below.refl _ _)) (Nat.le_refl _) (by simp) (by simp) _ (fun l hl => by rw [rk3] at hl; cases hl) (fun _ w3 hq3 => ?_)
  have hB3 : Below w.heap.size w w3 := e3.trans (hq3.mono e3.size)
  have g3 : Below w1.heap.size w1 w3 := f3.trans (hq3.mono f3.size)
  clear a3 b3 c3 e3 hq3 f3
  go_wp2_with fail
  have a4 : Blk (w3.alloc (.cells #[.int .u8 2, .int .u8 1, .int .u8 0] 5)) w3.heap.size (([2, 1, 0] : List UInt8).flatMap bE) 5 := Blk.new _ _ _ rfl
  have b4 : Blk ((w3.alloc (.cells #[.int .u8 2, .int .u8 1, .int .u8 0] 5)).alloc (.cells #[.bool true] 4)) (w3.heap.size + 1) [.bool true] 4 := Blk.new _ [.bool true] 4 (by simp)
  have c4 : Below (w3.alloc (.cells #[.int .u8 2, .int .u8 1, .int .u8 0] 5)).heap.size (w3.alloc (.cells #[.int .u8 2, .int .u8 1, .int .u8 0] 5)) ((w3.alloc (.cells #[.int .u8 2, .int .u8 1, .int .u8 0] 5)).alloc (.cells #[.bool true] 4)) := (Below.refl _ _).alloc (Nat.le_refl _) _
  have e4 : Below w.heap.size w ((w3.alloc (.cells #[.int .u8 2, .int .u8 1, .int .u8 0] 5)).alloc (.cells #[.bool true] 4)) := (hB3.alloc hB3.size _).alloc (by have := hB3.size; simp <;> omega) _
  have f4 : Below w1.heap.size w1 ((w3.alloc (.cells #[.int .u8 2, .int .u8 1, .int .u8 0] 5)).alloc (.cells #[.bool true] 4)) := (g3.alloc g3.size _).alloc (by have := g3.size; simp <;> omega) _
  refine Read_any _ _ [true] _ _ _ (litBytes a4 c4 (by simp)) (litBool true b4 (Below.refl _ _)) (Nat.le_refl _) (by simp) (by simp) _ (fun l hl => by rw [rk4] at hl; cases hl) (fun _ w4 hq4 => ?_)
  have hB4 : Below w.heap.size w w4 := e4.trans (hq4.mono e4.size)
  have g4 : Below w1.heap.size w1 w4 := f4.trans (hq4.mono f4.size)
  clear a4 b4 c4 e4 hq4 f4
  go_wp2_with fail
  refine Read_any w4.heap.size [] [] _ _ w4 (Sl.nil _ _ _ _ _) (Sl.nil _ _ _ _ _) (Nat.le_refl _) (by simp) (by simp) _ (fun l hl w5 v5 hq5 ho5 => ?_) (fun h => by rw [rk5] at h; cases h)
  rw [rk5] at hl
  cases hl
  have hB5 : Below w.heap.size w w5 := hB4.trans (hq5.mono hB4.size)
  have g5 : Below w1.heap.size w1 w5 := g4.trans (hq5.mono g4.size)
  obtain ⟨ao5, cap5, rfl, -, -, -, -⟩ := (OwnP.parts ho5 (Below.refl _ _)).form
  clear hq5 ho5
  go_wp2_with fail
  refine Value_any ⟨0, 0, []⟩ w5 (by simp) _ (fun h => by cases h) (fun _ w6 hq6 => ?_)
  have hB6 : Below w.heap.size w w6 := hB5.trans (hq6.mono hB5.size)
  have g6 : Below w1.heap.size w1 w6 := g5.trans (hq6.mono g5.size)
  clear hq6
  go_wp2_with fail
  have a7 : Blk (w6.alloc (.cells #[.bool true, .int .i64 0, .int .i64 0, .int .i64 0, .string ⟨#[]⟩] 39)) w6.heap.size (Pt.enc ⟨true, 0, ⟨0, 0, []⟩⟩) 39 := Blk.new _ _ _ rfl
  have e7 : Below w.heap.size w (w6.alloc (.cells #[.bool true, .int .i64 0, .int .i64 0, .int .i64 0, .string ⟨#[]⟩] 39)) := hB6.alloc hB6.size _
  have f7 : Below w1.heap.size w1 (w6.alloc (.cells #[.bool true, .int .i64 0, .int .i64 0, .int .i64 0, .string ⟨#[]⟩] 39)) := g6.alloc g6.size _
  have p7 : Pts 0 (w6.alloc (.cells #[.bool true, .int .i64 0, .int .i64 0, .int .i64 0, .string ⟨#[]⟩] 39)).heap.size (w6.alloc (.cells #[.bool true, .int .i64 0, .int .i64 0, .int .i64 0, .string ⟨#[]⟩] 39)) (.slice (some ⟨w6.heap.size, 0, none⟩) 1 1) [⟨true, 0, ⟨0, 0, []⟩⟩] :=
    ⟨some ⟨w6.heap.size, 0, none⟩, 1, rfl, Nat.le_refl _, by simp [maxLen], (fun h => by cases h), fun _ => ⟨w6.heap.size, 0, rfl, Nat.zero_le _, by simp, fun k hk => by
      have hk0 : k = 0 := by simpa using hk
      subst hk0
      exact ⟨Pt.enc ⟨true, 0, ⟨0, 0, []⟩⟩, rfl, by rw [Nat.zero_mul, Nat.add_zero]; exact a7.cells, rfl⟩⟩⟩
  refine Key_any 0 _ [⟨true, 0, ⟨0, 0, []⟩⟩] _ _ p7 (Nat.le_refl _) (by simp [sumP]) _ (fun h => by cases h) (fun _ w7 hq7 => ?_)
  have hB7 : Below w.heap.size w w7 := e7.trans (hq7.mono e7.size)
  have g7 : Below w1.heap.size w1 w7 := f7.trans (hq7.mono f7.size)
  clear a7 e7 f7 p7 hq7
  go_wp2_with fail
  have a8 : Blk (w7.alloc (.cells #[.int .u8 97, .int .u8 255] 5)) w7.heap.size (([97, 255] : List UInt8).flatMap bE) 5 := Blk.new _ _ _ rfl
  have e8 : Below w.heap.size w (w7.alloc (.cells #[.int .u8 97, .int .u8 255] 5)) := hB7.alloc hB7.size _
  have f8 : Below w1.heap.size w1 (w7.alloc (.cells #[.int .u8 97, .int .u8 255] 5)) := g7.alloc g7.size _
  refine End_any 0 _ _ [97, 255] _ (litBytes a8 (Below.refl _ _) (by simp)) (Nat.le_refl _) (by simp) _ (fun h => by cases h) (fun x hx w8 v8 hq8 ho8 => ?_)
  cases hx
  have hB8 : Below w.heap.size w w8 := e8.trans (hq8.mono e8.size)
  have g8 : Below w1.heap.size w1 w8 := f8.trans (hq8.mono f8.size)
  have Ho8 := Lib.hid ho8
  clear a8 e8 f8 hq8 ho8
  go_wp2_with fail
  have a9 : Blk (w8.alloc (.cells #[.int .u8 255] 5)) w8.heap.size (([255] : List UInt8).flatMap bE) 5 := Blk.new _ _ _ rfl
  have e9 : Below w.heap.size w (w8.alloc (.cells #[.int .u8 255] 5)) := hB8.alloc hB8.size _
  have f9 : Below w1.heap.size w1 (w8.alloc (.cells #[.int .u8 255] 5)) := g8.alloc g8.size _
  have k9 : Below w8.heap.size w8 (w8.alloc (.cells #[.int .u8 255] 5)) := (Below.refl _ _).alloc (Nat.le_refl _) _
  refine End_any 0 _ _ [255] _ (litBytes a9 (Below.refl _ _) (by simp)) (Nat.le_refl _) (by simp) _ (fun _ w9 hq9 => ?_) (fun x hx => by cases hx)
  have hB9 : Below w.heap.size w w9 := e9.trans (hq9.mono e9.size)
  have g9 : Below w1.heap.size w1 w9 := f9.trans (hq9.mono f9.size)
  have k10 : Below w8.heap.size w8 w9 := k9.trans (hq9.mono k9.size)
  clear a9 e9 f9 k9 hq9
  go_wp2_with fail
  refine alive_any w9 _ (fun w10 hq10 => ?_)
  have hB10 : Below w.heap.size w w10 := hB9.trans (hq10.mono hB9.size)
  have g10 : Below w1.heap.size w1 w10 := g9.trans (hq10.mono g9.size)
  have k11 : Below w8.heap.size w8 w10 := k10.trans (hq10.mono k10.size)
  clear hq10
  obtain ⟨p1, cap1, rfl, -, q1, -, -, hc1, -⟩ := Own.form Ho1.out (by simp)
  have hcell := (hc1.agree (.below g10 (Nat.le_refl _)) (Nat.zero_le _) q1)
  have hs8 := str ((OwnB.bytes Ho8.out).below (flat_loc _) k11 (Nat.le_refl _))
  obtain ⟨c0, c1, c2, c3, c4⟩ := CellsAt.c5 (show CellsAt w10 p1 0 [.bool true, .int .i64 0, .int .i64 2, .int .i64 1, .string ⟨#[]⟩] from hcell)
  simp only [Nat.zero_add] at c0 c1 c2 c3 c4
  clear hc1 hcell
  go_wp2_with fail
  refine Number_any (-1) w10 _ fun w11 b11 hq11 hb11 hblk => ?_
  have hn : (num8 (-1)) = [127, 255, 255, 255, 255, 255, 255, 255] := by decide
  rw [hn] at hblk
  have hB11 : Below w.heap.size w w11 := hB10.trans (hq11.mono hB10.size)
  have hs11 : (convert 22 9 (.slice (some ⟨b11, 0, none⟩) 8 8)).run Try.prog w11 = .ok (.string ⟨#[127, 255, 255, 255, 255, 255, 255, 255]⟩) w11 := str (Bytes.ofCells (c := 8) (lo := 0) (hi := w11.heap.size) (l := [127, 255, 255, 255, 255, 255, 255, 255]) hblk.cells (Nat.zero_le _) hblk.lt (by simp) (by simp [maxLen]))
  have hr := HR.out w11 hB11
  clear hq11 hblk hn
  go_wp2_with fail
  all_goals first | exact hr | exact fin hr rfl
end Go.Proofs.Ytomclldnoockcaa
