/- The program's Select: what it asks may keep a state of its own. (Printed by rowse.py.) -/
import Derived.Test.YtpncblagjkbemaaRowX
import Derived.Test.YtpncblagjkbemaaOnly
namespace Go.Proofs.Ytpncblagjkbemaa
open Go.RowKit
set_option linter.unusedVariables false
set_option linter.unusedSimpArgs false

theorem OwnR.keptOnly {A : Nat → Prop} {lo : Nat} {w w' : World} {v : Value} {hs : List Value} {xs : List (List V)} (h : OwnR lo w v hs xs) (hO : Only A w w') (hA : ∀ b, A b → b < lo) : OwnR lo w' v hs xs :=
  ⟨Own.same h.own (fun g e => hO.block g (Own.lt h.own g e).2 (fun a => by have := hA g a; have := (Own.lt h.own g e).1; omega)), h.len,
    fun i hi h2 => Own.same (h.row i hi h2) (fun g e => hO.block g (Own.lt (h.row i hi h2) g e).2 (fun a => by have := hA g a; have := (Own.lt (h.row i hi h2) g e).1; omega)), h.apart⟩
theorem Only.into2 {A A' : Nat → Prop} {w W W1 : World} (h1 : Only A w W) (h2 : Only A' W W1) (hA : ∀ b, b < w.heap.size → A' b → A b) : Only A w W1 :=
  ⟨h2.os.trans h1.os, h2.tape.trans h1.tape, h2.output.trans h1.output, Nat.le_trans h1.size h2.size, fun k hk hn => (h2.block k (Nat.lt_of_lt_of_le hk h1.size) (fun e => hn (hA k hk e))).trans (h1.block k hk hn)⟩
/-- First new blocks alone, then blocks of A'. -/
theorem Only.into {A A' : Nat → Prop} {B : Nat} {w W W1 : World} (h1 : Below B w W) (hB : B = w.heap.size) (h2 : Only A' W W1) (hA : ∀ b, b < w.heap.size → A' b → A b) : Only A w W1 := by
  subst hB
  exact ⟨h2.os.trans h1.os, h2.tape.trans h1.tape, h2.output.trans h1.output, Nat.le_trans h1.size h2.size, fun k hk hn => (h2.block k (Nat.lt_of_lt_of_le hk h1.size) (fun e => hn (hA k hk e))).trans (h1.block k hk)⟩
/-- The rows of which it is said so. -/
def keepL (keep : Nat → Bool) (l : List (List V)) : List (List V) := ((List.range l.length).filter keep).map fun i => l.getD i []
def keepTo (keep : Nat → Bool) (l : List (List V)) (k : Nat) : List (List V) := ((List.range k).filter keep).map fun i => l.getD i []
theorem keepTo_succ (keep : Nat → Bool) (l : List (List V)) (k : Nat) (h : k < l.length) : keepTo keep l (k + 1) = keepTo keep l k ++ (if keep k then [l[k]] else []) := by
  unfold keepTo
  rw [List.range_succ, List.filter_append, List.map_append, List.filter_cons, List.filter_nil]
  cases keep k
  · rfl
  · simp only [if_true, List.map_cons, List.map_nil]
    rw [getDS l _ k h]
theorem keepTo_len (keep : Nat → Bool) (l : List (List V)) (k : Nat) : (keepTo keep l k).length ≤ k := by
  unfold keepTo
  rw [List.length_map]
  exact Nat.le_trans (List.length_filter_le _ _) (by rw [List.length_range]; omega)
set_option maxRecDepth 100000 in
set_option maxHeartbeats 4000000 in
theorem gatherJ_any (lo hi : Nat) (l : List (List V)) (v : Value) (g : FuncId) (capt : Array Value) (keep : Nat → Bool) (A : Nat → Prop) (J : Nat → World → Prop) (w : World) (hv : Rws lo hi w v l) (hhi : hi ≤ w.heap.size) (hlen : l.length ≤ 5000000000000)
    (he : ∀ args w, (callFunc g args).run Try.prog w = .ok (.enter g args) w) (hA1 : ∀ b, A b → b < w.heap.size) (hA2 : ∀ b, A b → b < lo ∨ hi ≤ b) (hJ0 : J 0 w) (hJB : ∀ k w1 w2, J k w1 → Below w.heap.size w1 w2 → w.heap.size ≤ w1.heap.size → J k w2)
    (hq : ∀ k (hk : k < l.length) xv w' R, J k w' → w.heap.size ≤ w'.heap.size → Row1 lo hi w' xv l[k] → (∀ w'' yv, J (k + 1) w'' → Only A w' w'' → (keep k = true → OwnV w'.heap.size w'' yv l[k]) → (∃ a m c, yv = .slice a m c) → R (.returned (.tuple #[yv, .bool (keep k)])) w'') →
      Calls Try.prog g (#[xv] ++ capt) w' R)
    (R : Ending → World → Prop) (hR : ∀ w' v' hs, Only A w w' → J l.length w' → OwnR w.heap.size w' v' hs (keepL keep l) → R (.returned v') w') : Calls Try.prog 71 #[v, .func (.func g) #[] capt] w R := by
  have HR := Lib.hid hR
  have Hv := Lib.hid hv
  have Hq := Lib.hid hq
  have HA1 := Lib.hid hA1
  have HA2 := Lib.hid hA2
  have HJB := Lib.hid hJB
  have HJ0 := Lib.hid hJ0
  obtain ⟨av, cv, rfl, hcl, hcm, -, -⟩ := hv.form
  have hl63 := hv.len
  clear hR hv hq hA1 hA2 hJB hJ0
  go_enter Try.func71, Try.ntmps71
  go_wp2_with fail
  go_loopw [5, 12] (fun t5 t12 wr => ∃ (k : Nat) (hs : List Value), k ≤ l.length ∧ t12 = .int .i64 k ∧ OwnR w.heap.size wr t5 hs (keepTo keep l k) ∧ J k wr ∧ Only A w wr) (fun _ t12 _ => l.length - (intOf t12).toNat)
  case atStart => exact ⟨0, [], Nat.zero_le _, rfl, OwnR.nil _ _, HJ0.out, Only.refl _ _⟩
  case round =>
    obtain ⟨k, hs, hk, rfl, ho, hJ, hO⟩ := hrel
    obtain ⟨wo, ewo⟩ : ∃ x, x = wr := ⟨_, rfl⟩
    subst ewo
    have Ho := Lib.hid ho
    have HJ := Lib.hid hJ
    have HO := Lib.hid hO
    have hz := hO.size
    have kk0 : (0 : Int) ≤ (k : Int) := by omega
    obtain ⟨po, co, hpo⟩ := Own.slice ho.own
    have hsl : hs.length ≤ k := by rw [ho.len]; exact keepTo_len _ _ _
    clear ho hJ hO
    by_cases hlt : k < l.length
    · obtain ⟨b, off, rfl, hb, hrow⟩ := Rws.at (Sl.agree Hv.out rowE_loc (HO.out.agree hhi HA2.out)) (by omega) (by omega)
      obtain ⟨ax, cx, g2, r2⟩ := hrow k hlt
      have g0 := g2 wo (Below.refl _ _)
      have kkl : (k : Int) < (l.length : Int) := by omega
      have Hsv := Lib.hid r2
      have Hst := Lib.hid (keepTo_succ keep l k hlt)
      have Hq1 := Lib.hid (Hq.out k hlt)
      clear hrow g2 r2
      generalize l[k] = x at *
      subst hpo
      go_wp2_with fail
      refine Hq1.out _ wo _ HJ.out hz Hsv.out (fun w2 yv hJ2 hO2 hy hys => ?_)
      have HO2 := Lib.hid (HO.out.trans hO2)
      have Ho2 := Lib.hid (Ho.out.keptOnly hO2 HA1.out)
      have HJ2 := Lib.hid hJ2
      have hz2 := hO2.size
      obtain ⟨ya, ym, yc, rfl⟩ := hys
      cases hf : keep k with
      | false =>
        have Hn : Hid (keepTo keep l (k + 1) = keepTo keep l k) := Lib.hid (by rw [Hst.out, hf]; simp)
        simp only [hf]
        clear hy hf hO2 hJ2
        go_wp2_with fail
        go_roundw
        case rel => exact ⟨k + 1, hs, by omega, by go_num, by rw [Hn.out]; exact Ho2.out, HJ2.out, HO2.out⟩
        case measure => simp [intOf]; omega
      | true =>
        have Hn : Hid (keepTo keep l (k + 1) = keepTo keep l k ++ [x]) := Lib.hid (by rw [Hst.out, hf]; simp)
        have hoy : OwnV wo.heap.size w2 (.slice ya ym yc) x := hy hf
        simp only [hf]
        have hya : ∀ q, (Value.slice ya ym yc).ownBlock = some q → (Value.slice po hs.length co).ownBlock ≠ some q := fun q hq2 e => by
          have h1 := (Own.lt hoy q hq2).1
          have h2 := (Own.lt Ho.out.own q e).2
          omega
        obtain ⟨v3, w3, hr3, ho3, ha3⟩ := appH1 Ho2.out.own ya ym yc rfl (by omega) (by omega)
        have HO3 := Lib.hid (Ho2.out.snoc (Own.lower hoy hz) hya ho3 ha3)
        have hB23 := ha3.below (B := w.heap.size) (by omega) (fun q e => (Own.lt Ho.out.own q e).1)
        have HJ3 := Lib.hid (HJB.out _ _ _ HJ2.out hB23 (by omega))
        have HOn : Hid (Only A w w3) := Lib.hid ⟨hB23.os.trans HO2.out.os, hB23.tape.trans HO2.out.tape, hB23.output.trans HO2.out.output, Nat.le_trans HO2.out.size hB23.size, fun q hq hn => (hB23.block q hq).trans (HO2.out.block q hq hn)⟩
        clear hy hf hO2 hJ2 hoy ho3 ha3 hya hB23
        go_wp2_with (at_builtin; refine AtApp.of ?_)
        refine AtApp.go hr3 rfl rfl rfl rfl ?_
        go_wp2_with fail
        go_roundw
        case rel => exact ⟨k + 1, _, by omega, by go_num, by rw [Hn.out]; exact HO3.out, HJ3.out, HOn.out⟩
        case measure => simp [intOf]; omega
    · obtain rfl : k = l.length := by omega
      have hr := HR.out wo _ hs HO.out HJ.out Ho.out
      subst hpo
      go_wp2_with fail
      first | exact hr | exact fin hr rfl
set_option maxRecDepth 100000 in
set_option maxHeartbeats 4000000 in
theorem Select1_any (lo hi bS B : Nat) (x : List V) (vx : Value) (h : FuncId) (capt : Array Value) (q : Bool) (A : Nat → Prop) (J0 J1 : World → Prop) (w : World) (hx : Row1 lo hi w vx x) (hhi : hi ≤ w.heap.size) (hlen : x.length ≤ 4000000000000) (hbS : bS < B) (hbA : ¬ A bS) (hBw : B ≤ w.heap.size)
    (hb : ∀ w', J0 w' → Blk w' bS [.func (.func h) #[] capt] 61) (he : ∀ args w, (callFunc h args).run Try.prog w = .ok (.enter h args) w) (hA1 : ∀ b, A b → b < B) (hA2 : ∀ b, A b → b < lo ∨ hi ≤ b) (hJ0 : J0 w) (hJB0 : ∀ w1 w2, J0 w1 → Below B w1 w2 → B ≤ w1.heap.size → J0 w2) (hJB1 : ∀ w1 w2, J1 w1 → Below B w1 w2 → B ≤ w1.heap.size → J1 w2)
    (hu : ∀ zlo zv w' R, J0 w' → B ≤ zlo → zlo ≤ w'.heap.size → OwnV zlo w' zv x → (∀ w'', J1 w'' → Only (fun b => A b ∨ zv.ownBlock = some b) w' w'' → R (.returned (.bool q)) w'') → Calls Try.prog h (#[zv] ++ capt) w' R)
    (R : Ending → World → Prop) (hR : ∀ w'' yv, J1 w'' → Only A w w'' → OwnV w.heap.size w'' yv x → R (.returned (.tuple #[yv, .bool q])) w'') : Calls Try.prog 80 #[vx, .pointer (some ⟨bS, 0, none⟩)] w R := by
  have HR := Lib.hid hR
  have Hx := Lib.hid hx
  have Hb := Lib.hid hb
  have HA1 := Lib.hid hA1
  have HA2 := Lib.hid hA2
  have HJ0 := Lib.hid hJ0
  have HJB0 := Lib.hid hJB0
  have HJB1 := Lib.hid hJB1
  have Hu := Lib.hid hu
  obtain ⟨ax, cx, rfl, -, -, -, -⟩ := hx.form
  clear hR hx hb hA1 hA2 hJ0 hJB0 hJB1 hu
  go_enter Try.func80, Try.ntmps80
  go_upto_region 1 with fail
  have hS0 : Only A w w.drew := Only.drew _
  have hw0 : Below w.heap.size w w.drew := (Below.refl _ _).drew
  have W0 : Hid (Below w.heap.size w w.drew) := Lib.hid hw0
  have HJd := Lib.hid (HJB0.out _ _ HJ0.out (hw0.mono hBw) hBw)
  have hz0 : w.heap.size ≤ w.drew.heap.size := Nat.le_refl _
  clear hw0
  refine wp_region_held_drew (S := fun w' => Only A w w') (by kernel_rfl) hS0 (fun hHeld => ?_)
  have OD : Hid (Only A w w.drew) := Lib.hid hS0
  have Hfn : Hid (∀ w', Only A w w' → Blk w' bS [.func (.func h) #[] capt] 61) := Lib.hid (fun w' hO => hO.blk (Hb.out w HJ0.out) (fun a => hbA a))
  refine wpAnyH_take (i := 0) (v := .slice ax x.length cx) rfl (by kernel_rfl) (by kernel_rfl) (by kernel_rfl) (fun _ _ _ h => h) (Or.inl ⟨by rfl, ?_⟩) hHeld ?_
  · intro w' hSw; go_simp
  try simp only [Act.put, List.getElem_toArray, List.getElem_cons_succ, List.getElem_cons_zero, List.setIfInBounds_toArray, List.set_cons_zero, List.set_cons_succ]
  refine wpAnyH_take (i := 2) (v := .func (.func h) #[] capt) rfl (by kernel_rfl) (by kernel_rfl) (by kernel_rfl) (fun _ _ _ h => h) (Or.inl ⟨by rfl, ?_⟩) hHeld ?_
  · intro w' hSw; have kx := (Hfn.out w' hSw).cells.c1; go_simp
  try simp only [Act.put, List.getElem_toArray, List.getElem_cons_succ, List.getElem_cons_zero, List.setIfInBounds_toArray, List.set_cons_zero, List.set_cons_succ]
  refine wpAnyH_take (i := 3) (v := .slice ax x.length cx) rfl (by kernel_rfl) (by kernel_rfl) (by kernel_rfl) (fun _ _ _ h => h) (Or.inl ⟨by rfl, ?_⟩) hHeld ?_
  · intro w' hSw; go_simp
  try simp only [Act.put, List.getElem_toArray, List.getElem_cons_succ, List.getElem_cons_zero, List.setIfInBounds_toArray, List.set_cons_zero, List.set_cons_succ]
  refine wpAnyH_ready (rs := [1]) (by kernel_rfl) (by simp) ?_
  refine allCall (f := 81) (args := #[.slice ax x.length cx]) rfl (by kernel_rfl) (by kernel_rfl) ?_ AllReadyH.nil
  have hzo1 := OD.out.size
  refine CloneRow_any lo hi x _ w.drew (Sl.agree Hx.out Row1.loc (OD.out.agree hhi HA2.out)) (by omega) hlen _ (fun wc1 vc1 hB ho => ?_)
  obtain ⟨pc1, qc1, rfl⟩ := Own.slice ho
  have hzn1 := hB.size
  have O1 := Lib.hid (OD.out.trans (Below.only (A := A) hB))
  have J1 := Lib.hid (HJB0.out _ _ HJd.out (hB.mono (by omega)) (by omega))
  have Y1 : Hid (OwnV w.heap.size wc1 (.slice pc1 x.length qc1) x) := Lib.hid (Own.lower ho (by omega))
  clear hB ho hHeld
  refine ⟨_, rfl, O1.out, ?_⟩
  have hHeld := O1.out
  try simp only [Act.put, List.getElem_toArray, List.getElem_cons_succ, List.getElem_cons_zero, List.setIfInBounds_toArray, List.set_cons_zero, List.set_cons_succ]
  refine wpAnyH_ready (rs := [4]) (by kernel_rfl) (by simp) ?_
  refine allCall (f := 81) (args := #[.slice ax x.length cx]) rfl (by kernel_rfl) (by kernel_rfl) ?_ AllReadyH.nil
  have hzo2 := O1.out.size
  refine CloneRow_any lo hi x _ wc1 (Sl.agree Hx.out Row1.loc (O1.out.agree hhi HA2.out)) (by omega) hlen _ (fun wc2 vc2 hB ho => ?_)
  obtain ⟨pc2, qc2, rfl⟩ := Own.slice ho
  have hzn2 := hB.size
  have O2 := Lib.hid (O1.out.trans (Below.only (A := A) hB))
  have J2 := Lib.hid (HJB0.out _ _ J1.out (hB.mono (by omega)) (by omega))
  have HYZ : Hid (∀ k, (Value.slice pc2 x.length qc2).ownBlock = some k → (Value.slice pc1 x.length qc1).ownBlock ≠ some k) := Lib.hid (fun k e e2 => by have h1 := (Own.lt ho k e).1; have h2 := (Own.lt Y1.out k e2).2; omega)
  have Y2 := Lib.hid (Own.kept Y1.out hB)
  have Z2 : Hid (OwnV w.heap.size wc2 (.slice pc2 x.length qc2) x) := Lib.hid (Own.lower ho (by omega))
  clear hB ho hHeld
  refine ⟨_, rfl, O2.out, ?_⟩
  have hHeld := O2.out
  try simp only [Act.put, List.getElem_toArray, List.getElem_cons_succ, List.getElem_cons_zero, List.setIfInBounds_toArray, List.set_cons_zero, List.set_cons_succ]
  refine wpAnyH_ready (rs := [5]) (by kernel_rfl) (by simp) ?_
  refine allCall (f := h) (args := #[.slice pc2 x.length qc2] ++ capt) rfl (by kernel_rfl) (by go_simp) ?_ AllReadyH.nil
  have hzo3 := O2.out.size
  refine Hu.out w.heap.size _ wc2 _ J2.out hBw hzo3 Z2.out (fun wc3 hJ1 hO1 => ?_)
  have O3 := Lib.hid (Only.into2 O2.out hO1 (fun b hb h => h.elim id (fun e => absurd (Own.lt Z2.out b e).1 (by omega))))
  have J3 := Lib.hid hJ1
  have Y3 : Hid (OwnV w.heap.size wc3 (.slice pc1 x.length qc1) x) := Lib.hid (Own.same Y2.out (fun g e => hO1.block g (Own.lt Y2.out g e).2 (fun h => h.elim (fun a => absurd (HA1.out g a) (by have := (Own.lt Y2.out g e).1; omega)) (fun e2 => HYZ.out g e2 e))))
  clear hO1 hJ1 hHeld
  refine ⟨_, rfl, O3.out, ?_⟩
  have hHeld := O3.out
  try simp only [Act.put, List.getElem_toArray, List.getElem_cons_succ, List.getElem_cons_zero, List.setIfInBounds_toArray, List.set_cons_zero, List.set_cons_succ]
  refine wpAnyH_take (i := 6) (v := .slice pc1 x.length qc1) rfl (by kernel_rfl) (by kernel_rfl) (by kernel_rfl) (fun _ _ _ h => h) (Or.inl ⟨by rfl, ?_⟩) hHeld ?_
  · intro w' hSw; go_simp
  try simp only [Act.put, List.getElem_toArray, List.getElem_cons_succ, List.getElem_cons_zero, List.setIfInBounds_toArray, List.set_cons_zero, List.set_cons_succ]
  refine wpAnyH_take (i := 7) (v := .bool q) rfl (by kernel_rfl) (by kernel_rfl) (by kernel_rfl) (fun _ _ _ h => h) (Or.inl ⟨by rfl, ?_⟩) hHeld ?_
  · intro w' hSw; go_simp
  try simp only [Act.put, List.getElem_toArray, List.getElem_cons_succ, List.getElem_cons_zero, List.setIfInBounds_toArray, List.set_cons_zero, List.set_cons_succ]
  refine wpAnyH_done (by kernel_rfl) ?_ _
  clear hHeld
  have hr := HR.out wc3 _ J3.out O3.out Y3.out
  go_wp2_with fail
  first | exact hr | exact fin hr rfl
end Go.Proofs.Ytpncblagjkbemaa
