/- The document's sets: ends, In. (Printed by spne.py.) -/
import Derived.Test.YtkcpanaojehgiaaSpnD
import Derived.Test.YtkcpanaojehgiaaSlc
namespace Go.Proofs.Ytkcpanaojehgiaa
open Go.RowKit
set_option linter.unusedVariables false
set_option linter.unusedSimpArgs false

def Int.enc1 (n : Int) : List Value := [.int .i64 n]
abbrev OwnI := Own Int.enc1 2 1
theorem infoI : (Try.prog.info? 2).map (fun i => (i.zero, i.size, i.bytes)) = some (some (.int .i64 0), 1, 8) := by kernel_rfl
theorem OwnI.sl {lo : Nat} {w : World} {v : Value} {xs : List Int} (h : OwnI lo w v xs) : Sl (flat Int.enc1) 1 lo w.heap.size w v xs := Sl.ofOwn (fun _ => rfl) h
theorem size_I : ∀ w, (sizeOf (Try.prog.elem 77)).run Try.prog w = .ok 1 w := fun w => by kernel_rfl
theorem size_S : ∀ w, (sizeOf (Try.prog.elem 43)).run Try.prog w = .ok 2 w := fun w => by kernel_rfl
theorem appI1 {w : World} {lo : Nat} {v : Value} {xs : List Int} (h : OwnI lo w v xs) (x : Int) {n : Nat} (hn : n = w.heap.size) (hb : xs.length ≤ 8000000000000) (hlo : lo ≤ w.heap.size) :
    ∃ v' w', (Builtin.append_ #[77, 77] 77 #[v, .slice (some ⟨n, 0, none⟩) 1 1]).run Try.prog (w.alloc (.cells #[.int .i64 x] 2)) = .ok v' w' ∧ OwnI lo w' v' (xs ++ [x]) ∧ Appended w v w' v' := by
  subst hn
  have hB := alloc_below w (.cells (Int.enc1 x).toArray 2)
  obtain ⟨i0, hi, hz0, hz1, hz2⟩ := info_parts infoI
  have hc := CellsAt.newAt w (Int.enc1 x) 2 rfl
  have hs : Src Try.prog 1 77 (.slice (some ⟨w.heap.size, 0, none⟩) 1 1) [x].length ([x].flatMap Int.enc1) (w.alloc (.cells (Int.enc1 x).toArray 2)) :=
    Src.ofSlice _ Try.underlying77 _ _ _ _ (by simp [Int.enc1]) (fun j u hu => by rw [Addr.add_lit]; exact hc j u (by simpa using hu)) (fun u hu => by
      simp only [List.flatMap_cons, List.flatMap_nil, List.append_nil, Int.enc1, List.mem_cons, List.not_mem_nil, or_false] at hu
      subst hu
      rfl)
  obtain ⟨v', w', hr, ho, ha⟩ := (Own.kept h hB).app _ _ _ i0 _ 8 Try.underlying77 hi hz0 hz1 hz2 rfl hs (by simp only [List.length_cons, List.length_nil]; omega) (by omega) (Nat.le_trans hlo hB.size)
  exact ⟨v', w', hr, ho, (Appended.step v hB).trans ha⟩
theorem appIL {w : World} {lo lo2 hi2 : Nat} {v x : Value} {xs ys : List Int} (h : OwnI lo w v xs) (hx : Sl (flat Int.enc1) 1 lo2 hi2 w x ys) (hb : xs.length + ys.length ≤ 8000000000000) (hlo : lo ≤ w.heap.size) :
    ∃ v' w', (Builtin.append_ #[77, 77] 77 #[v, x]).run Try.prog w = .ok v' w' ∧ OwnI lo w' v' (xs ++ ys) ∧ Appended w v w' v' := by
  obtain ⟨i0, hi, hz0, hz1, hz2⟩ := info_parts infoI
  exact Own.app h _ _ _ i0 _ 8 Try.underlying77 hi hz0 hz1 hz2 rfl (Src.ofSl hx (fun _ => rfl) (fun x u hu => by simp only [Int.enc1, List.mem_singleton] at hu; subst hu; rfl) Try.underlying77) (by omega) (by omega) hlo
theorem appSL {w : World} {lo lo2 hi2 : Nat} {v x : Value} {xs ys : List Sp} (h : OwnS lo w v xs) (hx : Spans lo2 hi2 w x ys) (hb : xs.length + ys.length ≤ 8000000000000) (hlo : lo ≤ w.heap.size) :
    ∃ v' w', (Builtin.append_ #[43, 43] 43 #[v, x]).run Try.prog w = .ok v' w' ∧ OwnS lo w' v' (xs ++ ys) ∧ Appended w v w' v' := by
  obtain ⟨i0, hi, hz0, hz1, hz2⟩ := info_parts infoS
  exact Own.app h _ _ _ i0 _ 16 Try.underlying43 hi hz0 hz1 hz2 rfl (Src.ofSl hx (fun _ => rfl) (fun x u hu => by
    simp only [Sp.enc, List.mem_cons, List.not_mem_nil, or_false] at hu
    rcases hu with rfl | rfl <;> rfl) Try.underlying43) (by omega) (by omega) hlo
/-- The i-th end that is put in. -/
def valAt (l : List Sp) (i : Nat) : Int := if i % 2 = 1 then (l.getD (i / 2) default).t else (l.getD (i / 2) default).f
def endsTo (l : List Sp) (i : Nat) : List Int := (List.range i).foldl (fun e j => insE (valAt l j) e) []
theorem endsTo_succ (l : List Sp) (i : Nat) : endsTo l (i + 1) = insE (valAt l i) (endsTo l i) := by
  unfold endsTo
  rw [List.range_succ, List.foldl_append]
  rfl
theorem insE_at (n : Int) (e : List Int) : ∀ at' : Nat, at' ≤ e.length → (∀ i, i < at' → e.getD i 0 < n) → (at' < e.length → ¬ e.getD at' 0 < n) →
    insE n e = if at' < e.length ∧ e.getD at' 0 = n then e else (e.take at' ++ [n]) ++ e.drop at' := by
  induction e with
  | nil =>
    intro at' h _ _
    obtain rfl : at' = 0 := by simpa using h
    simp [insE]
  | cons x e ih =>
    intro at' h h1 h2
    cases at' with
    | zero =>
      have h3 : ¬ x < n := by simpa using h2 (by simp)
      simp only [insE, if_neg h3]
      by_cases hx : x = n
      · simp [hx]
      · simp [hx]
    | succ a =>
      have h3 : x < n := by simpa using h1 0 (by omega)
      simp only [insE, if_pos h3]
      rw [ih a (by simpa using h) (fun i hi => by simpa using h1 (i + 1) (by omega)) (fun ha => by simpa using h2 (by simpa using ha))]
      by_cases hc : a < e.length ∧ e.getD a 0 = n
      · rw [if_pos hc, if_pos (by simpa using hc)]
      · rw [if_neg hc, if_neg (by simpa using hc)]
        simp
theorem insE_len (n : Int) (e : List Int) : (insE n e).length ≤ e.length + 1 := by
  induction e with
  | nil => simp [insE]
  | cons x e ih =>
    simp only [insE]
    split
    · simp only [List.length_cons]; omega
    · split
      · simp only [List.length_cons]; omega
      · simp only [List.length_cons]; omega
theorem endsTo_len (l : List Sp) (i : Nat) : (endsTo l i).length ≤ i := by
  induction i with
  | zero => simp [endsTo]
  | succ i ih =>
    rw [endsTo_succ]
    have := insE_len (valAt l i) (endsTo l i)
    omega
theorem endsTo_even (l : List Sp) : ∀ k, k ≤ l.length → endsTo l (2 * k) = (l.take k).foldl (fun e s => insE s.t (insE s.f e)) [] := by
  intro k
  induction k with
  | zero => intro _; rfl
  | succ k ih =>
    intro h
    rw [show 2 * (k + 1) = 2 * k + 1 + 1 by omega, endsTo_succ, endsTo_succ, ih (by omega), List.take_succ_eq_append_getElem (by omega), List.foldl_append]
    have e1 : valAt l (2 * k) = l[k].f := by
      unfold valAt
      rw [if_neg (by omega), show 2 * k / 2 = k by omega, getD_at l _ k (by omega)]
    have e2 : valAt l (2 * k + 1) = l[k].t := by
      unfold valAt
      rw [if_pos (by omega), show (2 * k + 1) / 2 = k by omega, getD_at l _ k (by omega)]
    rw [e1, e2]
    rfl
theorem endsTo_all (l : List Sp) : endsTo l (2 * l.length) = endsL l := by
  rw [endsTo_even l _ (Nat.le_refl _), List.take_length]
  rfl
set_option maxRecDepth 100000 in
set_option maxHeartbeats 2000000 in
theorem In_any (lo hi : Nat) (l : List Sp) (v : Value) (t : Int) (w : World) (hv : Spans lo hi w v l) (R : Ending → World → Prop) (hR : R (.returned (.bool (inB l t))) w) :
    Calls Try.prog 26 #[v, .int .i64 t] w R := by
  have HR := Lib.hid hR
  obtain ⟨av, cv, rfl, hcl, hcm, -, hc⟩ := hv.form
  have Hc := Lib.hid hc
  clear hR hv hc
  go_enter Try.func26, Try.ntmps26
  go_wp2_with fail
  go_loop [5] (fun t5 => ∃ k : Nat, k ≤ l.length ∧ t5 = .int .i64 k ∧ inB (l.take k) t = false) (fun t5 => l.length - (intOf t5).toNat)
  case atStart => exact ⟨0, Nat.zero_le _, rfl, rfl⟩
  case round =>
    obtain ⟨k, hk, rfl, hno⟩ := hrel
    have Hno := Lib.hid hno
    have kk0 : (0 : Int) ≤ (k : Int) := by omega
    clear hno
    by_cases hlt : k < l.length
    · obtain ⟨b, off, rfl, hb1, hb2, hcc⟩ := Hc.out k hlt
      obtain ⟨cs, _, hcs, rfl⟩ := hcc k hlt
      obtain ⟨h0, h1⟩ := hcs.c2
      have kkl : (k : Int) < (l.length : Int) := by omega
      have Hst : Hid (inB (l.take (k + 1)) t = (decide (l[k].f ≤ t) && decide (t < l[k].t))) := Lib.hid (by
        have h := Hno.out
        unfold inB at h ⊢
        rw [any_take_succ l _ k hlt, h, Bool.false_or])
      have Hyes : Hid ((decide (l[k].f ≤ t) && decide (t < l[k].t)) = true → inB l t = true) := Lib.hid (fun h => by
        unfold inB
        rw [List.any_eq_true]
        exact ⟨l[k], List.getElem_mem hlt, h⟩)
      clear hcs hcc
      generalize l[k] = s at *
      by_cases h2 : s.f ≤ t
      · by_cases h3 : t < s.t
        · have hr := HR.out
          rw [Hyes.out (by rw [decide_eq_true h2, decide_eq_true h3]; rfl)] at hr
          go_wp2_with fail
          first | exact hr | exact fin hr rfl
        · have Hn : Hid (inB (l.take (k + 1)) t = false) := Lib.hid (by rw [Hst.out, decide_eq_false h3]; simp)
          go_wp2_with fail
          go_round
          case rel => exact ⟨k + 1, by omega, by go_num, Hn.out⟩
          case measure => simp [intOf]; omega
      · have Hn : Hid (inB (l.take (k + 1)) t = false) := Lib.hid (by rw [Hst.out, decide_eq_false h2]; simp)
        go_wp2_with fail
        go_round
        case rel => exact ⟨k + 1, by omega, by go_num, Hn.out⟩
        case measure => simp [intOf]; omega
    · obtain rfl : k = l.length := by omega
      have hr := HR.out
      have hn := Hno.out
      rw [List.take_length] at hn
      rw [hn] at hr
      clear hn
      go_wp2_with fail
      first | exact hr | exact fin hr rfl
set_option maxRecDepth 100000 in
set_option maxHeartbeats 8000000 in
theorem ends_any (lo hi : Nat) (l : List Sp) (v : Value) (w : World) (hv : Spans lo hi w v l) (hhi : hi ≤ w.heap.size) (hlen : l.length ≤ 2000000000) (R : Ending → World → Prop)
    (hR : ∀ w' v', Below w.heap.size w w' → OwnI w.heap.size w' v' (endsL l) → R (.returned v') w') : Calls Try.prog 55 #[v] w R := by
  have HR := Lib.hid hR
  have Hv := Lib.hid hv
  obtain ⟨av, cv, rfl, hcl, hcm, -, -⟩ := hv.form
  clear hR hv
  go_enter Try.func55, Try.ntmps55
  go_wp2_with fail
  go_loopw [3, 4] (fun t3 t4 wr => ∃ i : Nat, i ≤ 2 * l.length ∧ t4 = .int .i64 i ∧ OwnI w.heap.size wr t3 (endsTo l i) ∧ Below w.heap.size w wr) (fun _ t4 _ => 2 * l.length - (intOf t4).toNat)
  case atStart => exact ⟨0, Nat.zero_le _, rfl, Own.nil _ _ _ _ _, Below.refl _ _⟩
  case round =>
    obtain ⟨i, hi', rfl, ho, hB⟩ := hrel
    obtain ⟨wo, ewo⟩ : ∃ x, x = wr := ⟨_, rfl⟩
    subst ewo
    have Ho := Lib.hid ho
    have HB := Lib.hid hB
    have hz := hB.size
    have hel := endsTo_len l i
    have ii0 : (0 : Int) ≤ (i : Int) := by omega
    obtain ⟨po, co, rfl⟩ := Own.slice ho
    by_cases hlt : i < 2 * l.length
    · obtain ⟨ao', cap', e', -, -, -, hc⟩ := (Sl.below Hv.out Sp.loc hB hhi).form
      injection e' with e1 e2 e3
      subst e1 e3
      have him : i / 2 < l.length := by omega
      obtain ⟨b, off, rfl, hb1, hb2, hcc⟩ := hc (i / 2) him
      obtain ⟨cs, _, hcs, rfl⟩ := hcc (i / 2) him
      obtain ⟨h0, h1⟩ := hcs.c2
      have Hst := Lib.hid (endsTo_succ l i)
      have Hva : Hid (valAt l i = if i % 2 = 1 then l[i / 2].t else l[i / 2].f) := Lib.hid (by unfold valAt; rw [getD_at l _ _ him])
      clear hcs hc hcc hB ho
      generalize l[i / 2] = s at *
      generalize endsTo l i = e at *
      by_cases hpar : i % 2 = 1
      · have g8 : ((i : Int) % 2 == 1) = true := by rw [beq_iff_eq]; omega
        have Hval : Hid (valAt l i = s.t) := Lib.hid (by rw [Hva.out, if_pos hpar])
        clear hpar
        go_wp2_with fail
        go_loop [6] (fun t6 => ∃ a : Nat, a ≤ e.length ∧ t6 = .int .i64 a ∧ ∀ j, j < a → e.getD j 0 < s.t) (fun t6 => e.length - (intOf t6).toNat)
        case atStart => exact ⟨0, Nat.zero_le _, rfl, fun j h => absurd h (Nat.not_lt_zero _)⟩
        case round =>
          obtain ⟨a, haL, rfl, hlo⟩ := hrel
          have Hlo := Lib.hid hlo
          have aa0 : (0 : Int) ≤ (a : Int) := by omega
          clear hlo
          by_cases hal : a < e.length
          · obtain ⟨ge, ce, ege, -, -, -, hce⟩ := Ho.out.sl.form
            injection ege with e1 e2 e3
            subst e1 e3
            obtain ⟨bo, oo, rfl, ho1, ho2, hoc⟩ := hce a hal
            obtain ⟨cs, _, hcs, rfl⟩ := hoc a hal
            have g0 := hcs.c1
            rw [Nat.mul_one] at g0
            have aal : (a : Int) < (e.length : Int) := by omega
            have Hg : Hid (e.getD a 0 = e[a]) := Lib.hid (getD_at e _ a hal)
            clear hcs hoc hce
            generalize e[a] = y at *
            by_cases hyn : y < s.t
            · have Hyn := Lib.hid hyn
              go_wp2_with fail
              go_round
              case rel => exact ⟨a + 1, by omega, by go_num, fun j hj => by
                by_cases ej : j = a
                · subst ej; rw [Hg.out]; exact Hyn.out
                · exact Hlo.out j (by omega)⟩
              case measure => simp [intOf]; omega
            · have Hup : Hid (a < e.length → ¬ e.getD a 0 < s.t) := Lib.hid (fun _ => by rw [Hg.out]; exact hyn)
              by_cases hye : y = s.t
              · have HOC : Hid (OwnI w.heap.size wo (.slice (some ⟨bo, oo, none⟩) e.length co) (endsTo l (i + 1))) := Lib.hid (by
                  rw [Hst.out, Hval.out, insE_at s.t e a haL Hlo.out Hup.out, if_pos ⟨hal, by rw [Hg.out]; exact hye⟩]
                  exact Ho.out)
                have g9 : (y == s.t) = true := by simp [hye]
                clear hye
                go_wp2_with fail
                go_roundw
                case rel => exact ⟨i + 1, by omega, by go_num, HOC.out, HB.out⟩
                case measure => simp [intOf]; omega
              · have g9 : (y == s.t) = false := by simp [hye]
                have Hne : Hid (¬ (a < e.length ∧ e.getD a 0 = s.t)) := Lib.hid (fun h => hye (by rw [← Hg.out]; exact h.2))
                clear hye
                have hsl := Ho.out.sl
                obtain ⟨v1, hrun1, hs1⟩ := Sl.upTo hsl 77 Try.underlying77 size_I a haL
                obtain ⟨vA, wA, hrA, hoA, haA⟩ := appIL (lo := w.heap.size) (Own.nil Int.enc1 2 1 w.heap.size wo) hs1 (by rw [List.length_take]; simp; omega) hz
                have hBA : Below wo.heap.size wo wA := haA.below (Nat.le_refl _) (fun k e => by cases e)
                have hvA : ∀ k, vA.ownBlock = some k → wo.heap.size ≤ k := fun k ek => by
                  rcases haA.moved with h | ⟨q, h, hq⟩
                  · rw [h] at ek; cases ek
                  · rw [h] at ek; injection ek with ek; omega
                have hzA := hBA.size
                obtain ⟨vB, wB, hrB, hoB, haB⟩ := appI1 hoA s.t rfl (by simp; omega) (by omega)
                have hslB := (Sl.agree hsl (flat_loc _) (.below hBA (Nat.le_refl _))).agree (flat_loc _) (haB.agree hzA (fun k ek => .inr (hvA k ek)))
                have hzB := haB.grown.size
                obtain ⟨v2, hrun2, hs2⟩ := Sl.fromOn hslB 77 Try.underlying77 size_I a haL
                obtain ⟨vC, wC, hrC, hoC, haC⟩ := appIL hoB hs2 (by simp; omega) (by omega)
                have HBC := Lib.hid (HB.out.trans ((hBA.mono hz).trans ((haB.below (B := w.heap.size) (by omega) (fun k ek => by have := hvA k ek; omega)).trans (haC.below (B := w.heap.size) (by omega) (fun k ek => (Own.lt hoB k ek).1)))))
                have HOC : Hid (OwnI w.heap.size wC vC (endsTo l (i + 1))) := Lib.hid (by
                  rw [Hst.out, Hval.out, insE_at s.t e a haL Hlo.out Hup.out, if_neg Hne.out]
                  simpa using hoC)
                clear hsl hs1 hoA haA hBA hvA hzA hoB haB hslB hzB hs2 hoC haC h0 h1
                go_wp2_with (at_builtin; refine AtApp.of ?_)
                refine AtApp.go hrA rfl rfl rfl rfl ?_
                go_wp2_with (at_builtin; refine AtApp.of ?_)
                refine AtApp.go hrB rfl rfl rfl rfl ?_
                go_wp2_with (at_builtin; refine AtApp.of ?_)
                refine AtApp.go hrC rfl rfl rfl rfl ?_
                go_wp2_with fail
                go_roundw
                case rel => exact ⟨i + 1, by omega, by go_num, HOC.out, HBC.out⟩
                case measure => simp [intOf]; omega
          · have Hup : Hid (a < e.length → ¬ e.getD a 0 < s.t) := Lib.hid (fun h => absurd h hal)
            have Hne : Hid (¬ (a < e.length ∧ e.getD a 0 = s.t)) := Lib.hid (fun h => hal h.1)
            have hsl := Ho.out.sl
            obtain ⟨v1, hrun1, hs1⟩ := Sl.upTo hsl 77 Try.underlying77 size_I a haL
            obtain ⟨vA, wA, hrA, hoA, haA⟩ := appIL (lo := w.heap.size) (Own.nil Int.enc1 2 1 w.heap.size wo) hs1 (by rw [List.length_take]; simp; omega) hz
            have hBA : Below wo.heap.size wo wA := haA.below (Nat.le_refl _) (fun k e => by cases e)
            have hvA : ∀ k, vA.ownBlock = some k → wo.heap.size ≤ k := fun k ek => by
              rcases haA.moved with h | ⟨q, h, hq⟩
              · rw [h] at ek; cases ek
              · rw [h] at ek; injection ek with ek; omega
            have hzA := hBA.size
            obtain ⟨vB, wB, hrB, hoB, haB⟩ := appI1 hoA s.t rfl (by simp; omega) (by omega)
            have hslB := (Sl.agree hsl (flat_loc _) (.below hBA (Nat.le_refl _))).agree (flat_loc _) (haB.agree hzA (fun k ek => .inr (hvA k ek)))
            have hzB := haB.grown.size
            obtain ⟨v2, hrun2, hs2⟩ := Sl.fromOn hslB 77 Try.underlying77 size_I a haL
            obtain ⟨vC, wC, hrC, hoC, haC⟩ := appIL hoB hs2 (by simp; omega) (by omega)
            have HBC := Lib.hid (HB.out.trans ((hBA.mono hz).trans ((haB.below (B := w.heap.size) (by omega) (fun k ek => by have := hvA k ek; omega)).trans (haC.below (B := w.heap.size) (by omega) (fun k ek => (Own.lt hoB k ek).1)))))
            have HOC : Hid (OwnI w.heap.size wC vC (endsTo l (i + 1))) := Lib.hid (by
              rw [Hst.out, Hval.out, insE_at s.t e a haL Hlo.out Hup.out, if_neg Hne.out]
              simpa using hoC)
            clear hsl hs1 hoA haA hBA hvA hzA hoB haB hslB hzB hs2 hoC haC h0 h1
            go_wp2_with (at_builtin; refine AtApp.of ?_)
            refine AtApp.go hrA rfl rfl rfl rfl ?_
            go_wp2_with (at_builtin; refine AtApp.of ?_)
            refine AtApp.go hrB rfl rfl rfl rfl ?_
            go_wp2_with (at_builtin; refine AtApp.of ?_)
            refine AtApp.go hrC rfl rfl rfl rfl ?_
            go_wp2_with fail
            go_roundw
            case rel => exact ⟨i + 1, by omega, by go_num, HOC.out, HBC.out⟩
            case measure => simp [intOf]; omega
      · have g8 : ((i : Int) % 2 == 1) = false := by rw [beq_eq_false_iff_ne]; omega
        have Hval : Hid (valAt l i = s.f) := Lib.hid (by rw [Hva.out, if_neg hpar])
        clear hpar
        go_wp2_with fail
        go_loop [6] (fun t6 => ∃ a : Nat, a ≤ e.length ∧ t6 = .int .i64 a ∧ ∀ j, j < a → e.getD j 0 < s.f) (fun t6 => e.length - (intOf t6).toNat)
        case atStart => exact ⟨0, Nat.zero_le _, rfl, fun j h => absurd h (Nat.not_lt_zero _)⟩
        case round =>
          obtain ⟨a, haL, rfl, hlo⟩ := hrel
          have Hlo := Lib.hid hlo
          have aa0 : (0 : Int) ≤ (a : Int) := by omega
          clear hlo
          by_cases hal : a < e.length
          · obtain ⟨ge, ce, ege, -, -, -, hce⟩ := Ho.out.sl.form
            injection ege with e1 e2 e3
            subst e1 e3
            obtain ⟨bo, oo, rfl, ho1, ho2, hoc⟩ := hce a hal
            obtain ⟨cs, _, hcs, rfl⟩ := hoc a hal
            have g0 := hcs.c1
            rw [Nat.mul_one] at g0
            have aal : (a : Int) < (e.length : Int) := by omega
            have Hg : Hid (e.getD a 0 = e[a]) := Lib.hid (getD_at e _ a hal)
            clear hcs hoc hce
            generalize e[a] = y at *
            by_cases hyn : y < s.f
            · have Hyn := Lib.hid hyn
              go_wp2_with fail
              go_round
              case rel => exact ⟨a + 1, by omega, by go_num, fun j hj => by
                by_cases ej : j = a
                · subst ej; rw [Hg.out]; exact Hyn.out
                · exact Hlo.out j (by omega)⟩
              case measure => simp [intOf]; omega
            · have Hup : Hid (a < e.length → ¬ e.getD a 0 < s.f) := Lib.hid (fun _ => by rw [Hg.out]; exact hyn)
              by_cases hye : y = s.f
              · have HOC : Hid (OwnI w.heap.size wo (.slice (some ⟨bo, oo, none⟩) e.length co) (endsTo l (i + 1))) := Lib.hid (by
                  rw [Hst.out, Hval.out, insE_at s.f e a haL Hlo.out Hup.out, if_pos ⟨hal, by rw [Hg.out]; exact hye⟩]
                  exact Ho.out)
                have g9 : (y == s.f) = true := by simp [hye]
                clear hye
                go_wp2_with fail
                go_roundw
                case rel => exact ⟨i + 1, by omega, by go_num, HOC.out, HB.out⟩
                case measure => simp [intOf]; omega
              · have g9 : (y == s.f) = false := by simp [hye]
                have Hne : Hid (¬ (a < e.length ∧ e.getD a 0 = s.f)) := Lib.hid (fun h => hye (by rw [← Hg.out]; exact h.2))
                clear hye
                have hsl := Ho.out.sl
                obtain ⟨v1, hrun1, hs1⟩ := Sl.upTo hsl 77 Try.underlying77 size_I a haL
                obtain ⟨vA, wA, hrA, hoA, haA⟩ := appIL (lo := w.heap.size) (Own.nil Int.enc1 2 1 w.heap.size wo) hs1 (by rw [List.length_take]; simp; omega) hz
                have hBA : Below wo.heap.size wo wA := haA.below (Nat.le_refl _) (fun k e => by cases e)
                have hvA : ∀ k, vA.ownBlock = some k → wo.heap.size ≤ k := fun k ek => by
                  rcases haA.moved with h | ⟨q, h, hq⟩
                  · rw [h] at ek; cases ek
                  · rw [h] at ek; injection ek with ek; omega
                have hzA := hBA.size
                obtain ⟨vB, wB, hrB, hoB, haB⟩ := appI1 hoA s.f rfl (by simp; omega) (by omega)
                have hslB := (Sl.agree hsl (flat_loc _) (.below hBA (Nat.le_refl _))).agree (flat_loc _) (haB.agree hzA (fun k ek => .inr (hvA k ek)))
                have hzB := haB.grown.size
                obtain ⟨v2, hrun2, hs2⟩ := Sl.fromOn hslB 77 Try.underlying77 size_I a haL
                obtain ⟨vC, wC, hrC, hoC, haC⟩ := appIL hoB hs2 (by simp; omega) (by omega)
                have HBC := Lib.hid (HB.out.trans ((hBA.mono hz).trans ((haB.below (B := w.heap.size) (by omega) (fun k ek => by have := hvA k ek; omega)).trans (haC.below (B := w.heap.size) (by omega) (fun k ek => (Own.lt hoB k ek).1)))))
                have HOC : Hid (OwnI w.heap.size wC vC (endsTo l (i + 1))) := Lib.hid (by
                  rw [Hst.out, Hval.out, insE_at s.f e a haL Hlo.out Hup.out, if_neg Hne.out]
                  simpa using hoC)
                clear hsl hs1 hoA haA hBA hvA hzA hoB haB hslB hzB hs2 hoC haC h0 h1
                go_wp2_with (at_builtin; refine AtApp.of ?_)
                refine AtApp.go hrA rfl rfl rfl rfl ?_
                go_wp2_with (at_builtin; refine AtApp.of ?_)
                refine AtApp.go hrB rfl rfl rfl rfl ?_
                go_wp2_with (at_builtin; refine AtApp.of ?_)
                refine AtApp.go hrC rfl rfl rfl rfl ?_
                go_wp2_with fail
                go_roundw
                case rel => exact ⟨i + 1, by omega, by go_num, HOC.out, HBC.out⟩
                case measure => simp [intOf]; omega
          · have Hup : Hid (a < e.length → ¬ e.getD a 0 < s.f) := Lib.hid (fun h => absurd h hal)
            have Hne : Hid (¬ (a < e.length ∧ e.getD a 0 = s.f)) := Lib.hid (fun h => hal h.1)
            have hsl := Ho.out.sl
            obtain ⟨v1, hrun1, hs1⟩ := Sl.upTo hsl 77 Try.underlying77 size_I a haL
            obtain ⟨vA, wA, hrA, hoA, haA⟩ := appIL (lo := w.heap.size) (Own.nil Int.enc1 2 1 w.heap.size wo) hs1 (by rw [List.length_take]; simp; omega) hz
            have hBA : Below wo.heap.size wo wA := haA.below (Nat.le_refl _) (fun k e => by cases e)
            have hvA : ∀ k, vA.ownBlock = some k → wo.heap.size ≤ k := fun k ek => by
              rcases haA.moved with h | ⟨q, h, hq⟩
              · rw [h] at ek; cases ek
              · rw [h] at ek; injection ek with ek; omega
            have hzA := hBA.size
            obtain ⟨vB, wB, hrB, hoB, haB⟩ := appI1 hoA s.f rfl (by simp; omega) (by omega)
            have hslB := (Sl.agree hsl (flat_loc _) (.below hBA (Nat.le_refl _))).agree (flat_loc _) (haB.agree hzA (fun k ek => .inr (hvA k ek)))
            have hzB := haB.grown.size
            obtain ⟨v2, hrun2, hs2⟩ := Sl.fromOn hslB 77 Try.underlying77 size_I a haL
            obtain ⟨vC, wC, hrC, hoC, haC⟩ := appIL hoB hs2 (by simp; omega) (by omega)
            have HBC := Lib.hid (HB.out.trans ((hBA.mono hz).trans ((haB.below (B := w.heap.size) (by omega) (fun k ek => by have := hvA k ek; omega)).trans (haC.below (B := w.heap.size) (by omega) (fun k ek => (Own.lt hoB k ek).1)))))
            have HOC : Hid (OwnI w.heap.size wC vC (endsTo l (i + 1))) := Lib.hid (by
              rw [Hst.out, Hval.out, insE_at s.f e a haL Hlo.out Hup.out, if_neg Hne.out]
              simpa using hoC)
            clear hsl hs1 hoA haA hBA hvA hzA hoB haB hslB hzB hs2 hoC haC h0 h1
            go_wp2_with (at_builtin; refine AtApp.of ?_)
            refine AtApp.go hrA rfl rfl rfl rfl ?_
            go_wp2_with (at_builtin; refine AtApp.of ?_)
            refine AtApp.go hrB rfl rfl rfl rfl ?_
            go_wp2_with (at_builtin; refine AtApp.of ?_)
            refine AtApp.go hrC rfl rfl rfl rfl ?_
            go_wp2_with fail
            go_roundw
            case rel => exact ⟨i + 1, by omega, by go_num, HOC.out, HBC.out⟩
            case measure => simp [intOf]; omega
    · obtain rfl : i = 2 * l.length := by omega
      rw [endsTo_all] at ho
      have hr := HR.out wo _ HB.out ho
      rw [endsTo_all]
      clear hB ho
      go_wp2_with fail
      first | exact hr | exact fin hr rfl
end Go.Proofs.Ytkcpanaojehgiaa
