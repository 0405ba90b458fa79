/- The walk of OrderReads. -/
import Derived.Test.YtomclldnoockcaaRefReadK
import Derived.Test.YtomclldnoockcaaSame
namespace Go.Proofs.Ytomclldnoockcaa
open Go.RowKit

theorem OwnP.parts {lo : Nat} {w w' : World} {v : Value} {xs : List Pt} (h : OwnP lo w v xs) (hB : Below w.heap.size w w') : Pts 0 w'.heap.size w' v xs :=
  (Sl.below (Sl.ofOwn (enc := Pt.enc) (size := 5) (fun _ => rfl) h : Pts lo w.heap.size w v xs) (flat_loc _) hB (Nat.le_refl _)).mono (flat_loc _) (Nat.zero_le _) hB.size

set_option maxRecDepth 100000 in
set_option maxHeartbeats 8000000 in
theorem OrderReads_any (hi : Nat) (b : List UInt8) (kinds : List Bool) (bv kv : Value) (w : World) (hb : Bytes 0 hi w bv b) (hk : Bools 0 hi w kv kinds) (hhi : hi ≤ w.heap.size)
    (R : Ending → World → Prop) (hR : ∀ w', Below w.heap.size w w' → R (.returned (.bool true)) w') : Calls Try.prog 5 #[bv, kv] w R := by
  have Hb := Lib.hid hb
  have Hk := Lib.hid hk
  have HR := Lib.hid hR
  obtain ⟨ao, cap, rfl, h1, h2, -, -⟩ := hb.form
  obtain ⟨ao2, cap2, rfl, h3, h4, -, -⟩ := hk.form
  clear hb hk hR
  go_enter Try.func5, Try.ntmps5
  by_cases g1 : 5000 < b.length
  · have hr := HR.out w (Below.refl _ _)
    go_wp2_with fail
    all_goals first | exact hr | exact fin hr rfl
  by_cases g2 : 100 < kinds.length
  · have hr := HR.out w (Below.refl _ _)
    go_wp2_with fail
    all_goals first | exact hr | exact fin hr rfl
  go_wp2_with (at_builtin; refine AtApp.of ?_)
  have hB0 : Below w.heap.size w (w.alloc (.cells #[] 5)) := (Below.refl _ _).alloc (Nat.le_refl _) _
  have hom := Own.made bE 5 1 w.heap.size w rfl (Nat.le_refl _)
  obtain ⟨v2, w2, hr, ho2, ha2⟩ := appB (ys := b) hom (srcB (Sl.below Hb.out (flat_loc _) hB0 hhi)) (by simp; omega) hB0.size
  refine AtApp.go hr rfl rfl rfl rfl ?_
  have hB2 := hB0.trans (Own.below hom ha2 hB0.size)
  rw [List.nil_append] at ho2
  have Ho2 := Lib.hid ho2
  have hs2 := hB2.size
  have H2 := Lib.hid (OwnB.later ho2 (Below.refl _ _))
  have Hk2 := Lib.hid ((Sl.below Hk.out (flat_loc _) hB2 hhi).mono (flat_loc _) (Nat.le_refl _) (Nat.le_trans hhi hs2))
  clear hr ho2 ha2 hom hB0
  go_wp2_with fail
  cases hrk : readK kinds b with
  | none =>
    refine Read_any w2.heap.size b kinds _ _ w2 H2.out Hk2.out (Nat.le_refl _) (by omega) (by omega) _ (fun l hl => by rw [hrk] at hl; cases hl) (fun _ w3 hB3 => ?_)
    have hBw3 := hB2.trans (hB3.mono hs2)
    go_wp2_with fail
    refine refRead_any hi b kinds _ _ w3 (Sl.below Hb.out (flat_loc _) hBw3 hhi) (Sl.below Hk.out (flat_loc _) hBw3 hhi) (Nat.le_trans hhi hBw3.size) (by omega) (by omega) _ (fun l hl => by rw [hrk] at hl; cases hl) (fun _ w4 hB4 => ?_)
    have hBw4 := hBw3.trans (hB4.mono hBw3.size)
    have hB24 := hB3.trans (hB4.mono hB3.size)
    clear hrk
    go_wp2_with fail
    refine Same_any 0 w4.heap.size [] _ _ w4 (Sl.nil _ _ _ _ _) (Sl.nil _ _ _ _ _) (Nat.le_refl _) _ fun w5 hB5 => ?_
    have hBw5 := hBw4.trans (hB5.mono hBw4.size)
    have hB25 := hB24.trans (hB5.mono hB24.size)
    have s5 := str (OwnB.later Ho2.out hB25)
    have s0 := str (Sl.below Hb.out (flat_loc _) hBw5 hhi)
    have hr := HR.out w5 hBw5
    go_wp2_with fail
    all_goals first | exact hr | exact fin hr rfl
  | some l =>
    refine Read_any w2.heap.size b kinds _ _ w2 H2.out Hk2.out (Nat.le_refl _) (by omega) (by omega) _ (fun l' hl w3 v3 hB3 ho3 => ?_) (fun hl => by rw [hrk] at hl; cases hl)
    rw [hrk] at hl
    cases hl
    have hBw3 := hB2.trans (hB3.mono hs2)
    have Ho3 := Lib.hid ho3
    clear ho3
    go_wp2_with fail
    refine refRead_any hi b kinds _ _ w3 (Sl.below Hb.out (flat_loc _) hBw3 hhi) (Sl.below Hk.out (flat_loc _) hBw3 hhi) (Nat.le_trans hhi hBw3.size) (by omega) (by omega) _ (fun l' hl w4 v4 hB4 ho4 => ?_) (fun hl => by rw [hrk] at hl; cases hl)
    rw [hrk] at hl
    cases hl
    have hBw4 := hBw3.trans (hB4.mono hBw3.size)
    have hB24 := hB3.trans (hB4.mono hB3.size)
    have Hp3 := Lib.hid (OwnP.parts Ho3.out hB4)
    have Hp4 := Lib.hid (OwnP.parts ho4 (Below.refl _ _))
    clear hrk ho4
    go_wp2_with fail
    refine Same_any 0 w4.heap.size l _ _ w4 Hp3.out Hp4.out (Nat.le_refl _) _ fun w5 hB5 => ?_
    have hBw5 := hBw4.trans (hB5.mono hBw4.size)
    have hB25 := hB24.trans (hB5.mono hB24.size)
    have s5 := str (OwnB.later Ho2.out hB25)
    have s0 := str (Sl.below Hb.out (flat_loc _) hBw5 hhi)
    have hr := HR.out w5 hBw5
    go_wp2_with fail
    all_goals first | exact hr | exact fin hr rfl
end Go.Proofs.Ytomclldnoockcaa
