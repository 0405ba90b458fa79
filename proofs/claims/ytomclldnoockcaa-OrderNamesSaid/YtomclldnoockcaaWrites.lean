/- The walk of OrderWrites. -/
import Derived.Test.YtomclldnoockcaaRefKey
import Derived.Test.YtomclldnoockcaaKeyB
import Derived.Test.YtomclldnoockcaaTwoCalls
namespace Go.Proofs.Ytomclldnoockcaa
open Go.RowKit
attribute [local go_sem ↓] Go.wp_at_zero Go.wp_at_succ

theorem refKey_b (lo hi : Nat) (l : List Pt) (v : Value) (w : World) (hv : Pts lo hi w v l) (hhi : hi ≤ w.heap.size) (hs : sumP l ≤ 1000000) (R : Ending → World → Prop)
    (hR : ∀ w' v', Below w.heap.size w w' → OwnB w.heap.size w' v' (keyB l) → R (.returned (.tuple #[v', .int .i64 (keyE l)])) w') : Calls Try.prog 14 #[v] w R :=
  refKey_any lo hi l v w hv hhi hs R (fun h w' v' hB ho => fin (hR w' v' hB (by rw [keyB, if_pos h]; exact ho)) (by rw [keyE, if_pos h]))
    (fun h w' hB => fin (hR w' (.slice none 0 0) hB (by rw [keyB, if_neg (by simp [h])]; exact Own.nil _ _ _ _ _)) (by rw [keyE, if_neg (by simp [h])]))
theorem refValue_b (v : V) (w : World) (hs : v.s.length ≤ 10000000) (R : Ending → World → Prop)
    (hR : ∀ w' v', Below w.heap.size w w' → OwnB w.heap.size w' v' (valB v) → R (.returned (.tuple #[v', .int .i64 (valE v)])) w') :
    Calls Try.prog 17 #[.agg #[.int .i64 v.kind, .int .i64 v.n, .string ⟨v.s.toArray⟩]] w R :=
  refValue_any v w hs R (fun h w' v' hB ho => fin (hR w' v' hB (by rw [valB, if_pos h]; exact ho)) (by rw [valE, if_pos h]))
    (fun h w' hB => fin (hR w' (.slice none 0 0) hB (by rw [valB, if_neg (by simp [h])]; exact Own.nil _ _ _ _ _)) (by rw [valE, if_neg (by simp [h])]))
def endB (l : List UInt8) : List UInt8 := (endP l).getD []
theorem End_b (lo hi : Nat) (v : Value) (l : List UInt8) (w : World) (hv : Bytes lo hi w v l) (hhi : hi ≤ w.heap.size) (hlen : l.length ≤ 100000000) (R : Ending → World → Prop)
    (hR : ∀ w' v', Below w.heap.size w w' → OwnB w.heap.size w' v' (endB l) → R (.returned (.tuple #[v', .bool (endP l).isSome])) w') : Calls Try.prog 10 #[v] w R :=
  End_any lo hi v l w hv hhi hlen R (fun h w' hB => fin (hR w' (.slice none 0 0) hB (by rw [endB, h]; exact Own.nil _ _ _ _ _)) (by rw [h]; rfl)) (fun e h w' v' hB ho => fin (hR w' v' hB (by rw [endB, h]; exact ho)) (by rw [h]; rfl))
theorem refEnd_b (lo hi : Nat) (v : Value) (l : List UInt8) (w : World) (hv : Bytes lo hi w v l) (hhi : hi ≤ w.heap.size) (hlen : l.length ≤ 100000000) (R : Ending → World → Prop)
    (hR : ∀ w' v', Below w.heap.size w w' → OwnB w.heap.size w' v' (endB l) → R (.returned (.tuple #[v', .bool (endP l).isSome])) w') : Calls Try.prog 15 #[v] w R :=
  refEnd_any lo hi v l w hv hhi hlen R (fun h w' hB => fin (hR w' (.slice none 0 0) hB (by rw [endB, h]; exact Own.nil _ _ _ _ _)) (by rw [h]; rfl)) (fun e h w' v' hB ho => fin (hR w' v' hB (by rw [endB, h]; exact ho)) (by rw [h]; rfl))

theorem Number_c (n : Int) (w : World) : Calls Try.prog 18 #[.int .i64 n] w fun e w' => ∃ g cap, e = .returned (.slice (some ⟨g, 0, none⟩) 8 cap) ∧ Below w.heap.size w w' ∧
    (∀ W, Below w'.heap.size w' W → (convert 22 9 (.slice (some ⟨g, 0, none⟩) 8 cap)).run Try.prog W = .ok (.string ⟨(num8 n).toArray⟩) W) ∧ (convert 22 9 (.slice (some ⟨g, 0, none⟩) 8 cap)).run Try.prog w' = .ok (.string ⟨(num8 n).toArray⟩) w' :=
  Number_any n w _ fun w' g hB hg hblk => by
    have h := Bytes.ofCells (c := 8) (lo := 0) (hi := w'.heap.size) (l := num8 n) hblk.cells (Nat.zero_le _) hblk.lt (by rw [num8_length]; omega) (by simp [maxLen])
    rw [num8_length] at h
    exact ⟨g, 8, rfl, hB, fun W hW => str (Sl.below h (flat_loc _) hW (Nat.le_refl _)), str h⟩
theorem refNumber_c (n : Int) (w : World) : Calls Try.prog 19 #[.int .i64 n] w fun e w' => ∃ g cap, e = .returned (.slice (some ⟨g, 0, none⟩) 8 cap) ∧ Below w.heap.size w w' ∧
    (∀ W, Below w'.heap.size w' W → (convert 22 9 (.slice (some ⟨g, 0, none⟩) 8 cap)).run Try.prog W = .ok (.string ⟨(num8 n).toArray⟩) W) ∧ (convert 22 9 (.slice (some ⟨g, 0, none⟩) 8 cap)).run Try.prog w' = .ok (.string ⟨(num8 n).toArray⟩) w' :=
  refNumber_any n w _ fun w' v hB ho => by
    obtain ⟨g, cap, rfl, -⟩ := Own.form ho (by intro e; have := num8_length n; rw [e] at this; simp at this)
    rw [num8_length] at ho
    have h := OwnB.later ho (Below.refl _ _)
    exact ⟨g, cap, by rw [num8_length], hB, fun W hW => str (OwnB.later ho hW), str h⟩

set_option maxRecDepth 100000 in
set_option maxHeartbeats 8000000 in
theorem OrderWrites_any (lo hi : Nat) (n : Int) (l : List Pt) (b : List UInt8) (v1 v2 : Value) (w : World) (hv1 : Pts lo hi w v1 l) (hv2 : Bytes lo hi w v2 b) (hhi : hi ≤ w.heap.size) (hs : sumP l ≤ 100000000)
    (R : Ending → World → Prop) (hR : ∀ w', Below w.heap.size w w' → R (.returned (.bool true)) w') : Calls Try.prog 4 #[.int .i64 n, v1, v2] w R := by
  have Hv1 := Lib.hid hv1
  have Hv2 := Lib.hid hv2
  obtain ⟨ao, cap, rfl, hl1, hl2, -, hc⟩ := hv1.form
  obtain ⟨ao2, cap2, rfl, hl3, hl4, -, -⟩ := hv2.form
  have Hc := Lib.hid hc
  have hll := sumP_length l
  have HR := Lib.hid hR
  clear hc hv1 hv2 hR
  go_enter Try.func4, Try.ntmps4
  go_wp2_with fail
  refine great_any lo hi l _ _ Hv1.out hs _ ?_
  by_cases hg : 5000 < sumP l
  · rw [decide_eq_true hg]
    have hr := HR.out w (Below.refl _ _)
    go_wp2_with fail
    all_goals first | exact hr | exact fin hr rfl
  rw [decide_eq_false hg]
  by_cases hb : 5000 < b.length
  · have hr := HR.out w (Below.refl _ _)
    go_wp2_with fail
    all_goals first | exact hr | exact fin hr rfl
  go_wp2_with fail
  refine Key_b lo hi l _ w Hv1.out hhi (by omega) _ fun w1 t7 hB1 ho1 => ?_
  have Ho1 := Lib.hid ho1
  clear ho1
  go_wp2_with fail
  refine refKey_b lo hi l _ w1 (Sl.below Hv1.out (flat_loc _) hB1 hhi) (Nat.le_trans hhi hB1.size) (by omega) _ fun w2 t9 hB2 ho2 => ?_
  have Ho2 := Lib.hid ho2
  have hB12 := hB1.trans (hB2.mono hB1.size)
  clear ho2
  go_wp2_with fail
  refine End_b lo hi _ b w2 (Sl.below Hv2.out (flat_loc _) hB12 hhi) (Nat.le_trans hhi hB12.size) (by omega) _ fun w3 t11 hB3 ho3 => ?_
  have Ho3 := Lib.hid ho3
  have hB13 := hB12.trans (hB3.mono hB12.size)
  clear ho3
  go_wp2_with fail
  refine refEnd_b lo hi _ b w3 (Sl.below Hv2.out (flat_loc _) hB13 hhi) (Nat.le_trans hhi hB13.size) (by omega) _ fun w4 t13 hB4 ho4 => ?_
  have hB14 := hB13.trans (hB4.mono hB13.size)
  have H7 := Lib.hid (Ho1.out.later ((hB2.trans (hB3.mono hB2.size)).trans (hB4.mono (Nat.le_trans hB2.size hB3.size))))
  have H9 := Lib.hid (Ho2.out.later (hB3.trans (hB4.mono hB3.size)))
  have H11 := Lib.hid (Ho3.out.later hB4)
  have H13 := Lib.hid (OwnB.later ho4 (Below.refl _ _))
  have hs4 := hB14.size
  clear ho4 Ho1 Ho2 Ho3 hB1 hB2 hB3 hB4 hB12 hB13
  go_wp2_with fail
  go_loopw [15] (fun t15 wr => ∃ k : Nat, k ≤ l.length ∧ t15 = .int .i64 k ∧ Below w4.heap.size w4 wr) (fun t15 _ => l.length - (intOf t15).toNat)
  case atStart => exact ⟨0, Nat.zero_le _, rfl, Below.refl _ _⟩
  case round =>
    obtain ⟨k, hk, rfl, hB⟩ := hrel
    have hBw := hB14.trans (hB.mono hs4)
    by_cases hlt : k < l.length
    · obtain ⟨b, off, rfl, hb1, hb2, hcc⟩ := Hc.out k hlt
      obtain ⟨cs, -, hcs, he⟩ := hcc k hlt
      subst he
      have hA : Agree lo hi w wr := .below hBw hhi
      obtain ⟨c0, c1, c2, c3, c4⟩ := (hcs.agree hA hb1 hb2).c5
      have hp := sumP_part l k hlt
      have hsl : l[k].v.s.length ≤ 5000 := by omega
      have hbz : b < wr.heap.size := by have := hBw.size; omega
      clear hcs hcc hp hA
      go_wp2_with fail
      refine Value_b l[k].v wr (by omega) _ fun w5 t16 hB5 ho5 => ?_
      have d2 : w5.cell? ⟨b, off + k * 5 + 2, none⟩ = some (.int .i64 l[k].v.kind) := by rw [World.cell?_of_block (hB5.block b hbz)]; exact c2
      have d3 : w5.cell? ⟨b, off + k * 5 + 3, none⟩ = some (.int .i64 l[k].v.n) := by rw [World.cell?_of_block (hB5.block b hbz)]; exact c3
      have d4 : w5.cell? ⟨b, off + k * 5 + 4, none⟩ = some (.string ⟨l[k].v.s.toArray⟩) := by rw [World.cell?_of_block (hB5.block b hbz)]; exact c4
      have Ho5 := Lib.hid ho5
      clear ho5 c0 c1 c2 c3 c4
      go_wp2_with fail
      refine refValue_b l[k].v w5 (by omega) _ fun w6 t18 hB6 ho6 => ?_
      have s16 := str (Ho5.out.later hB6)
      have s18 := str (OwnB.later ho6 (Below.refl _ _))
      have hB56 := hB5.trans (hB6.mono hB5.size)
      have hB46 := hB.trans (hB56.mono hB.size)
      clear ho6 d2 d3 d4
      go_wp2_with fail
      go_roundw
      case rel => exact ⟨k + 1, by omega, by go_num, hB46⟩
      case measure => simp [intOf]; omega
    · have hkeep : ∀ W, Below w4.heap.size w4 W → (Below w4.heap.size w4 W ∧ (convert 22 9 t7).run Try.prog W = .ok (.string ⟨(keyB l).toArray⟩) W ∧ (convert 22 9 t9).run Try.prog W = .ok (.string ⟨(keyB l).toArray⟩) W ∧ (convert 22 9 t11).run Try.prog W = .ok (.string ⟨(endB b).toArray⟩) W ∧ (convert 22 9 t13).run Try.prog W = .ok (.string ⟨(endB b).toArray⟩) W) := fun W h =>
        ⟨h, str (Sl.below H7.out (flat_loc _) h (Nat.le_refl _)), str (Sl.below H9.out (flat_loc _) h (Nat.le_refl _)), str (Sl.below H11.out (flat_loc _) h (Nat.le_refl _)), str (Sl.below H13.out (flat_loc _) h (Nat.le_refl _))⟩
      clear H7 H9 H11 H13 Hv1 Hv2 Hc
      go_wp2_with fail
      have hB0 := hB.drew
      refine wp_region_any (by kernel_rfl) ?_
      change wpAny _ _ _ _ _ _ _ (World.drew _)
      refine wpAny_take (i := 0) (v := .int .i64 n) rfl (by kernel_rfl) (by kernel_rfl) (by kernel_rfl) (fun _ _ _ h => h) (Or.inl ⟨by rfl, ?_⟩) ?_
      · intro w; go_simp
      refine wpAny_take (i := 3) (v := .int .i64 n) rfl (by kernel_rfl) (by kernel_rfl) (by kernel_rfl) (fun _ _ _ h => h) (Or.inl ⟨by rfl, ?_⟩) ?_
      · intro w; go_simp
      try simp only [Act.put, List.setIfInBounds_toArray, List.set_cons_zero, List.set_cons_succ]
      refine wpAny_ready (rs := [1]) (by kernel_rfl) (by simp) (AllReady.cons rfl (fun K hK => ?_) AllReady.nil)
      go_simp
      refine (Number_c n _).mono ?_
      rintro e w5 ⟨g1, cp1, rfl, hb1', hc1, hd1⟩
      refine hK _ _ ?_
      clear hK K
      try simp only [Act.put, List.setIfInBounds_toArray, List.set_cons_zero, List.set_cons_succ]
      refine wpAny_of_held (S := fun W => (convert 22 9 (.slice (some ⟨g1, 0, none⟩) 8 cp1)).run Try.prog W = .ok (.string ⟨(num8 n).toArray⟩) W) _ _ _ _ ?_
      refine wpAnyH_take (i := 2) (v := .string ⟨(num8 n).toArray⟩) rfl (by kernel_rfl) (by kernel_rfl) (by kernel_rfl) (fun _ _ _ h => h) (Or.inl ⟨by rfl, ?_⟩) hd1 ?_
      · intro w hSw; go_simp
      try simp only [Act.put, List.setIfInBounds_toArray, List.set_cons_zero, List.set_cons_succ]
      refine wpAnyH_ready (rs := [4]) (by kernel_rfl) (by simp) (AllReadyH.cons rfl (fun K hK => ?_) AllReadyH.nil)
      go_simp
      refine (refNumber_c n _).mono ?_
      rintro e w6 ⟨g2, cp2, rfl, hb2', hc2, hd2⟩
      refine hK.out _ _ (hc1 _ hb2') (fun hS6 => ?_)
      clear hK K
      try simp only [Act.put, List.setIfInBounds_toArray, List.set_cons_zero, List.set_cons_succ]
      have hB6 := hB0.trans ((hb1'.trans (hb2'.mono hb1'.size)).mono hB0.size)
      obtain ⟨-, e7, e9, e11, e13⟩ := hkeep w6 hB6
      have hr := HR.out w6 (hB14.trans (hB6.mono hs4))
      refine wpAnyH_rest 5 (by kernel_rfl) rfl (by kernel_rfl) hS6 ?_
      simp only [List.drop_succ_cons, List.drop_zero]
      repeat (quiet_step (fail))
      refine wpQuiet_nil ?_
      go_wp2_with fail
      first | exact hr | exact fin hr rfl
end Go.Proofs.Ytomclldnoockcaa
