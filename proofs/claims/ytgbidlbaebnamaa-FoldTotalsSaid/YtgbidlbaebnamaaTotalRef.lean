/- The document's Total, and the law FoldTotals. -/
import Derived.Test.YtgbidlbaebnamaaTotal
namespace Go.Proofs.Ytgbidlbaebnamaa
open Go.RowKit

def H32 : Int := 4294967296
theorem half_pos {n : Int} (h : 0 ≤ n) : n.tdiv 4294967296 = n / 4294967296 ∧ n.tmod 4294967296 = n % 4294967296 := ⟨Int.tdiv_eq_ediv_of_nonneg h, Int.tmod_eq_emod_of_nonneg h⟩
theorem half_neg {n : Int} (h : n < 0) : (n.tmod 4294967296 < 0 ∧ n.tmod 4294967296 + 4294967296 = n % 4294967296 ∧ n.tdiv 4294967296 - 1 = n / 4294967296) ∨ (n.tmod 4294967296 = 0 ∧ n % 4294967296 = 0 ∧ n.tdiv 4294967296 = n / 4294967296) := by
  have hs : Int.sign 4294967296 = 1 := rfl
  rw [Int.tmod_eq_emod, Int.tdiv_eq_ediv, hs]
  split <;> simp at * <;> omega
/-- The two halves' sum, told. -/
theorem halves {a b s : Int} (h : a * H32 + b = s) : (a + b / 4294967296) * 4294967296 + b % 4294967296 = s := by unfold H32 at h; omega
theorem halves_in {a b s : Int} (h : a * H32 + b = s) : inI64 s ↔ ¬ (a + b / 4294967296 < -2147483648) ∧ ¬ (2147483648 ≤ a + b / 4294967296) := by
  unfold H32 at h; unfold inI64; omega

set_option maxRecDepth 100000 in
set_option maxHeartbeats 1000000 in
theorem refTotal_any (lo hi : Nat) (v : Value) (l : List V) (w : World) (hv : Sl (flat V.enc) 3 lo hi w v l) (hhi : hi ≤ w.heap.size) (hok : ∀ x ∈ l, x.ok) (hlen : l.length ≤ 1000) (R : Ending → World → Prop)
    (hR : ∀ w', Below w.heap.size w w' → R (.returned (totalV (total l))) w') : Calls Try.prog 15 #[v] w R := by
  obtain ⟨ao, cap, rfl, hl1, hl2, _, hc⟩ := hv.form
  have Hc := Lib.hid hc
  clear hc
  go_enter Try.func15, Try.ntmps15
  go_wp2_with fail
  go_loopw [4, 5, 6, 7, 8] (fun t4 t5 t6 _ _ wr => ∃ (k : Nat) (a b : Int), k ≤ l.length ∧ t4 = .int .i64 a ∧ t5 = .int .i64 b ∧ t6 = .int .i64 k ∧ (l.take k).all (fun v => v.kind == 1) = true ∧
      a * H32 + b = ((l.take k).map V.n).sum ∧ -2147483648 * (k : Int) ≤ a ∧ a ≤ 2147483648 * (k : Int) ∧ 0 ≤ b ∧ b ≤ 4294967296 * (k : Int) ∧
      Below w.heap.size w wr ∧ Blk wr w.heap.size [.int .i64 0, .int .i64 0, .string ⟨#[]⟩] 24) (fun _ _ t6 _ _ _ => l.length - (intOf t6).toNat)
  case atStart =>
    exact ⟨0, 0, 0, Nat.zero_le _, rfl, rfl, rfl, rfl, rfl, by omega, by omega, by omega, by omega, (Below.refl _ _).alloc (Nat.le_refl _) _, Blk.new _ _ _ rfl⟩
  case round =>
    obtain ⟨k, a, b, hk, rfl, rfl, rfl, hall, hs, ha1, ha2, hb1, hb2, hB, hz⟩ := hrel
    have Hall := Lib.hid hall
    have Hs := Lib.hid hs
    clear hall hs
    obtain ⟨z0, z1, z2⟩ := hz.cells.c3
    have fz0 := hz.free 0
    have fz1 := hz.free 1
    have fz2 := hz.free 2
    simp only [Nat.zero_add] at z0 z1 z2
    have hzl := hz.lt
    by_cases hlt : k < l.length
    · obtain ⟨b0, off, rfl, hb1, hb2, hcc⟩ := Hc.out k hlt
      obtain ⟨cs, _, hcs, rfl⟩ := hcc k hlt
      obtain ⟨h0, h1, h2⟩ := (hcs.agree (.below hB hhi) hb1 hb2).c3
      have hxo := hok _ (List.getElem_mem hlt)
      have hall2 := Lib.hid (all_take_succ l (fun v => v.kind == 1) k hlt)
      have hsum := Lib.hid (List.take_succ_eq_append_getElem hlt)
      clear hcc hcs
      generalize hx : l[k] = x at *
      have Hx := Lib.hid hx
      clear hx
      by_cases hkind : x.kind = 1
      · have Hk := Lib.hid hkind
        have hne : (x.kind != 1) = false := by simp [hkind]
        clear hkind
        obtain ⟨q1, q2⟩ := hxo.1
        by_cases hpos : 0 ≤ x.n
        · go_wp2_with fail
          go_roundw
          case rel => exact ⟨k + 1, a + x.n / 4294967296, b + x.n % 4294967296, by omega, rfl, rfl, by go_num, by rw [hall2.out, Hall.out]; simp [Hk.out], by rw [hsum.out, List.map_append, List.sum_append, ← Hs.out]; simp [H32]; omega, by push_cast; omega, by push_cast; omega, by omega, by push_cast; omega, hB, hz⟩
          case measure => simp [intOf]; omega
        · rcases half_neg (show x.n < 0 by omega) with ⟨g1, g2, g3⟩ | ⟨g1, g2, g3⟩
          · have b1 : -2147483648 ≤ x.n.tdiv 4294967296 ∧ x.n.tdiv 4294967296 ≤ 1 := by omega
            have b2 : -4294967296 ≤ x.n.tmod 4294967296 := by omega
            obtain ⟨b1, b1'⟩ := b1
            have G2 := Lib.hid g2
            have G3 := Lib.hid g3
            clear g2 g3
            go_wp2_with fail
            go_roundw
            case rel =>
              have e2 := G2.out
              have e3 := G3.out
              exact ⟨k + 1, _, _, by omega, rfl, rfl, by go_num, by rw [hall2.out, Hall.out]; simp [Hk.out], by rw [hsum.out, List.map_append, List.sum_append, ← Hs.out]; simp [H32]; omega, by push_cast; omega, by push_cast; omega, by omega, by push_cast; omega, hB, hz⟩
            case measure => simp [intOf]; omega
          · have b1 : -2147483648 ≤ x.n.tdiv 4294967296 ∧ x.n.tdiv 4294967296 ≤ 1 := by omega
            have b2 : 0 ≤ x.n.tmod 4294967296 ∧ x.n.tmod 4294967296 ≤ 1 := by omega
            obtain ⟨b1, b1'⟩ := b1
            obtain ⟨b2, b2'⟩ := b2
            have G1 := Lib.hid g1
            have G2 := Lib.hid g2
            have G3 := Lib.hid g3
            clear g1 g2 g3
            go_wp2_with fail
            go_roundw
            case rel =>
              have e1 := G1.out
              have e2 := G2.out
              have e3 := G3.out
              exact ⟨k + 1, _, _, by omega, rfl, rfl, by go_num, by rw [hall2.out, Hall.out]; simp [Hk.out], by rw [hsum.out, List.map_append, List.sum_append, ← Hs.out]; simp [H32]; omega, by push_cast; omega, by push_cast; omega, by omega, by push_cast; omega, hB, hz⟩
            case measure => simp [intOf]; omega
      · have hne : (x.kind != 1) = true := by simp [hkind]
        have Hk := Lib.hid hkind
        clear hkind
        have Ht : Hid (total l = none) := by
          have : l.all (fun v => v.kind == 1) = false := by
            rw [List.all_eq_false]
            exact ⟨x, Hx.out ▸ List.getElem_mem hlt, by simpa using Hk.out⟩
          simp [Hid, total, this]
        go_wp2_with fail
        rw [Ht.out] at hR
        exact ret_cell_tmp rfl rfl (((((hz.set 0 (.int .i64 0)).set 1 (.int .i64 0)).set 2 (.string ⟨#[]⟩))).cells.runVar (fun _ => by kernel_rfl) (fun _ => by kernel_rfl)) rfl rfl
          (hR _ ((((hB.setCell (p := ⟨w.heap.size, 0, none⟩) (Nat.le_refl _) _).setCell (p := ⟨w.heap.size, 1, none⟩) (Nat.le_refl _) _).setCell (p := ⟨w.heap.size, 2, none⟩) (Nat.le_refl _) _)))
    · have e : k = l.length := by omega
      subst e
      have Ha : Hid (l.all (fun v => v.kind == 1) = true) := by have := Hall.out; rwa [List.take_length] at this
      have hs := Hs.out
      rw [List.take_length] at hs
      have h1 := halves hs
      have h2 := halves_in hs
      have H1 := Lib.hid h1
      have H2 := Lib.hid h2
      clear h1 h2 hs Hs
      by_cases c1 : a + b / 4294967296 < -2147483648
      · have Ht : Hid (total l = none) := by rw [Hid, total, if_pos Ha.out, if_neg (fun h => (H2.out.1 h).1 c1)]
        go_wp2_with fail
        rw [Ht.out] at hR
        exact ret_cell_tmp rfl rfl (((((hz.set 0 (.int .i64 0)).set 1 (.int .i64 0)).set 2 (.string ⟨#[]⟩))).cells.runVar (fun _ => by kernel_rfl) (fun _ => by kernel_rfl)) rfl rfl
          (hR _ ((((hB.setCell (p := ⟨w.heap.size, 0, none⟩) (Nat.le_refl _) _).setCell (p := ⟨w.heap.size, 1, none⟩) (Nat.le_refl _) _).setCell (p := ⟨w.heap.size, 2, none⟩) (Nat.le_refl _) _)))
      by_cases c2 : 2147483648 ≤ a + b / 4294967296
      · have Ht : Hid (total l = none) := by rw [Hid, total, if_pos Ha.out, if_neg (fun h => (H2.out.1 h).2 c2)]
        go_wp2_with fail
        rw [Ht.out] at hR
        exact ret_cell_tmp rfl rfl (((((hz.set 0 (.int .i64 0)).set 1 (.int .i64 0)).set 2 (.string ⟨#[]⟩))).cells.runVar (fun _ => by kernel_rfl) (fun _ => by kernel_rfl)) rfl rfl
          (hR _ ((((hB.setCell (p := ⟨w.heap.size, 0, none⟩) (Nat.le_refl _) _).setCell (p := ⟨w.heap.size, 1, none⟩) (Nat.le_refl _) _).setCell (p := ⟨w.heap.size, 2, none⟩) (Nat.le_refl _) _)))
      · have Ht : Hid (total l = some ((a + b / 4294967296) * 4294967296 + b % 4294967296)) := by rw [Hid, total, if_pos Ha.out, if_pos (H2.out.2 ⟨c1, c2⟩), H1.out]
        go_wp2_with fail
        rw [Ht.out] at hR
        exact ret_cell_tmp rfl rfl (((((hz.set 0 (.int .i64 1)).set 1 (.int .i64 ((a + b / 4294967296) * 4294967296 + b % 4294967296))).set 2 (.string ⟨#[]⟩))).cells.runVar (fun _ => by kernel_rfl) (fun _ => by kernel_rfl)) rfl rfl
          (hR _ ((((hB.setCell (p := ⟨w.heap.size, 0, none⟩) (Nat.le_refl _) _).setCell (p := ⟨w.heap.size, 1, none⟩) (Nat.le_refl _) _).setCell (p := ⟨w.heap.size, 2, none⟩) (Nat.le_refl _) _)))

set_option maxRecDepth 100000 in
set_option maxHeartbeats 1000000 in
theorem FoldTotals_any (lo hi : Nat) (v : Value) (l : List V) (w : World) (hv : Sl (flat V.enc) 3 lo hi w v l) (hhi : hi ≤ w.heap.size) (hok : ∀ x ∈ l, x.ok) (R : Ending → World → Prop)
    (hR : ∀ w', Below w.heap.size w w' → R (.returned (.bool true)) w') : Calls Try.prog 3 #[v] w R := by
  have hv' := Lib.hid hv
  obtain ⟨ao, cap, rfl, hl1, hl2, -, -⟩ := hv.form
  clear hv
  by_cases hlen : 1000 < l.length
  · go_enter Try.func3, Try.ntmps3
    go_wp2_with fail
    all_goals exact Below.refl _ _
  go_enter Try.func3, Try.ntmps3
  go_wp2_with fail
  refine Total_any lo hi _ l _ hv'.out hhi hok (by omega) _ fun w1 hB1 => ?_
  obtain ⟨k1, n1, k2, hT⟩ : ∃ k1 n1 k2, totalV (total l) = .tuple #[.agg #[.int .i64 k1, .int .i64 n1, .string ⟨#[]⟩], .int .i64 k2] := ⟨_, _, _, rfl⟩
  rw [hT]
  have HT := Lib.hid hT
  clear hT
  go_wp2_with fail
  have hB2 : Below w.heap.size w _ := hB1.alloc hB1.size (Obj.cells #[.int .i64 k1, .int .i64 n1, .string ⟨#[]⟩] 24)
  have hz1 : Blk (w1.alloc (Obj.cells #[.int .i64 k1, .int .i64 n1, .string ⟨#[]⟩] 24)) w1.heap.size [.int .i64 k1, .int .i64 n1, .string ⟨#[]⟩] 24 := Blk.new _ _ _ rfl
  refine refTotal_any lo hi _ l _ (hv'.out.below (flat_loc _) hB2 hhi) (Nat.le_trans hhi hB2.size) hok (by omega) _ fun w2 hB3 => ?_
  have hB4 := hB2.trans (hB3.mono hB2.size)
  have hz2 := hz1.below hB3 hz1.lt
  obtain ⟨z0, z1, z2⟩ := hz2.cells.c3
  simp only [Nat.zero_add] at z1 z2
  have hzl := hz2.lt
  clear hz1 hB3 hB2
  rw [HT.out]
  go_wp2_with fail
  all_goals exact hB4.alloc hB4.size _
end Go.Proofs.Ytgbidlbaebnamaa
