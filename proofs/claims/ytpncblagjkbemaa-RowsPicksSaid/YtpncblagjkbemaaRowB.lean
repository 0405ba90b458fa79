/- Columns: where one stands; each there once; places; a row's values at places. (Printed by rowb.py.) -/
import Derived.Test.YtpncblagjkbemaaRowA
import Derived.Test.YtpncblagjkbemaaSlc
namespace Go.Proofs.Ytpncblagjkbemaa
open Go.RowKit
set_option linter.unusedVariables false
set_option linter.unusedSimpArgs false

abbrev S := List UInt8
def strE (s : S) : List Value := [.string ⟨s.toArray⟩]
/-- Columns: a slice of strings. -/
abbrev Strs := Sl (flat strE) 1
theorem Strs.loc : Loc (flat strE) := flat_loc _
def placeI (l : List S) (c : S) : Int := match l.findIdx? (· == c) with
  | some i => i
  | none => -1
theorem placeI_hit {l : List S} {c : S} {k : Nat} (hk : k < l.length) (hp : l[k] = c) (hno : ∀ i, i < k → l.getD i [] ≠ c) : placeI l c = k := by
  unfold placeI
  have : l.findIdx? (· == c) = some k := by
    rw [List.findIdx?_eq_some_iff_getElem]
    exact ⟨hk, by simp [hp], fun j hj => by
      have := hno j hj
      rw [List.getD_eq_getElem?_getD, List.getElem?_eq_getElem (by omega)] at this
      simpa using this⟩
  rw [this]
theorem placeI_no {l : List S} {c : S} (hno : ∀ i, i < l.length → l.getD i [] ≠ c) : placeI l c = -1 := by
  unfold placeI
  have : l.findIdx? (· == c) = none := by
    rw [List.findIdx?_eq_none_iff]
    intro x hx
    obtain ⟨i, hi, rfl⟩ := List.getElem_of_mem hx
    have := hno i hi
    rw [List.getD_eq_getElem?_getD, List.getElem?_eq_getElem hi] at this
    simpa using this
  rw [this]
theorem placeI_lt (l : List S) (c : S) : -1 ≤ placeI l c ∧ placeI l c < l.length := by
  unfold placeI
  cases h : l.findIdx? (· == c) with
  | none => simp only; omega
  | some i =>
    obtain ⟨hi, -⟩ := List.findIdx?_eq_some_iff_getElem.1 h
    simp only
    omega
theorem getDS {α : Type} (l : List α) (d : α) (i : Nat) (h : i < l.length) : l.getD i d = l[i] := by simp [List.getD, h]
set_option maxRecDepth 100000 in
set_option maxHeartbeats 2000000 in
theorem Index_any (lo hi : Nat) (l : List S) (c : S) (v : Value) (w : World) (hv : Strs lo hi w v l) (R : Ending → World → Prop) (hR : R (.returned (.int .i64 (placeI l c))) w) :
    Calls Try.prog 95 #[v, .string ⟨c.toArray⟩] w R := by
  have HR := Lib.hid hR
  obtain ⟨ao, cap, rfl, -, hcm, -, hc⟩ := hv.form
  have Hc := Lib.hid hc
  have hlen := hv.len
  clear hR hv hc
  go_enter Try.func95, Try.ntmps95
  go_wp2_with fail
  go_loop [8] (fun t8 => ∃ k : Nat, k ≤ l.length ∧ t8 = .int .i64 k ∧ ∀ i, i < k → l.getD i [] ≠ c) (fun t8 => l.length - (intOf t8).toNat)
  case atStart => exact ⟨0, Nat.zero_le _, rfl, fun i h => absurd h (Nat.not_lt_zero _)⟩
  case round =>
    obtain ⟨k, hk, rfl, hno⟩ := hrel
    have Hno := Lib.hid hno
    clear hno
    have kk0 : (0 : Int) ≤ (k : Int) := by omega
    by_cases hlt : k < l.length
    · obtain ⟨b, off, rfl, hb1, hb2, hcc⟩ := Hc.out k hlt
      obtain ⟨cs, _, hcs, rfl⟩ := hcc k hlt
      have g0 := hcs.c1
      rw [Nat.mul_one] at g0
      have kkl : (k : Int) < (l.length : Int) := by omega
      have Hx : Hid (l.getD k [] = l[k]) := Lib.hid (getDS l _ k hlt)
      have Hhit : Hid (l[k] = c → placeI l c = k) := Lib.hid (fun h => placeI_hit hlt h Hno.out)
      clear hcs hcc
      generalize l[k] = y at *
      by_cases he : y = c
      · have hr := HR.out
        rw [Hhit.out he] at hr
        subst he
        go_wp2_with fail
        first | exact hr | exact fin hr rfl
      · have he2 : (y == c) = false := by simpa using he
        have he3 : (c == y) = false := by simp; exact fun h => he h.symm
        have Hne := Lib.hid he
        clear he
        go_wp2_with fail
        go_round
        case rel => exact ⟨k + 1, by omega, by go_num, fun i hi => by
          by_cases e : i = k
          · subst e; rw [Hx.out]; exact Hne.out
          · exact Hno.out i (by omega)⟩
        case measure => simp [intOf]; omega
    · obtain rfl : k = l.length := by omega
      have hr := HR.out
      rw [placeI_no Hno.out] at hr
      go_wp2_with fail
      first | exact hr | exact fin hr rfl
set_option maxRecDepth 100000 in
set_option maxHeartbeats 2000000 in
theorem place_any (lo hi : Nat) (l : List S) (c : S) (v : Value) (w : World) (hv : Strs lo hi w v l) (R : Ending → World → Prop) (hR : R (.returned (.int .i64 (placeI l c))) w) :
    Calls Try.prog 88 #[v, .string ⟨c.toArray⟩] w R := by
  have HR := Lib.hid hR
  obtain ⟨ao, cap, rfl, -, hcm, -, hc⟩ := hv.form
  have Hc := Lib.hid hc
  have hlen := hv.len
  clear hR hv hc
  go_enter Try.func88, Try.ntmps88
  go_wp2_with fail
  go_loop [5] (fun t5 => ∃ k : Nat, k ≤ l.length ∧ t5 = .int .i64 k ∧ ∀ i, i < k → l.getD i [] ≠ c) (fun t5 => l.length - (intOf t5).toNat)
  case atStart => exact ⟨0, Nat.zero_le _, rfl, fun i h => absurd h (Nat.not_lt_zero _)⟩
  case round =>
    obtain ⟨k, hk, rfl, hno⟩ := hrel
    have Hno := Lib.hid hno
    clear hno
    have kk0 : (0 : Int) ≤ (k : Int) := by omega
    by_cases hlt : k < l.length
    · obtain ⟨b, off, rfl, hb1, hb2, hcc⟩ := Hc.out k hlt
      obtain ⟨cs, _, hcs, rfl⟩ := hcc k hlt
      have g0 := hcs.c1
      rw [Nat.mul_one] at g0
      have kkl : (k : Int) < (l.length : Int) := by omega
      have Hx : Hid (l.getD k [] = l[k]) := Lib.hid (getDS l _ k hlt)
      have Hhit : Hid (l[k] = c → placeI l c = k) := Lib.hid (fun h => placeI_hit hlt h Hno.out)
      clear hcs hcc
      generalize l[k] = y at *
      by_cases he : y = c
      · have hr := HR.out
        rw [Hhit.out he] at hr
        subst he
        go_wp2_with fail
        first | exact hr | exact fin hr rfl
      · have he2 : (y == c) = false := by simpa using he
        have he3 : (c == y) = false := by simp; exact fun h => he h.symm
        have Hne := Lib.hid he
        clear he
        go_wp2_with fail
        go_round
        case rel => exact ⟨k + 1, by omega, by go_num, fun i hi => by
          by_cases e : i = k
          · subst e; rw [Hx.out]; exact Hne.out
          · exact Hno.out i (by omega)⟩
        case measure => simp [intOf]; omega
    · obtain rfl : k = l.length := by omega
      have hr := HR.out
      rw [placeI_no Hno.out] at hr
      go_wp2_with fail
      first | exact hr | exact fin hr rfl
set_option maxRecDepth 100000 in
set_option maxHeartbeats 2000000 in
theorem Contains_any (lo hi : Nat) (l : List S) (c : S) (v : Value) (w : World) (hv : Strs lo hi w v l) (R : Ending → World → Prop) (hR : R (.returned (.bool (decide (0 ≤ placeI l c)))) w) :
    Calls Try.prog 98 #[v, .string ⟨c.toArray⟩] w R := by
  have HR := Lib.hid hR
  have Hv := Lib.hid hv
  obtain ⟨ao, cap, rfl, -, -, -, -⟩ := hv.form
  clear hR hv
  go_enter Try.func98, Try.ntmps98
  go_wp2_with fail
  refine Index_any lo hi l c _ w Hv.out _ ?_
  have hr := HR.out
  go_wp2_with fail
  first | exact hr | exact fin hr rfl
/-- Are columns few enough, each there once? -/
def onceAt (l : List S) (i : Nat) : Bool := decide (i < 32) && placeI l (l.getD i []) == i
def onceB (l : List S) : Bool := (List.range l.length).all (onceAt l)
theorem onceB_yes {l : List S} (h : ∀ i, i < l.length → onceAt l i = true) : onceB l = true := by
  unfold onceB
  rw [List.all_eq_true]
  exact fun i hi => h i (List.mem_range.1 hi)
theorem onceB_no {l : List S} {i : Nat} (hi : i < l.length) (h : onceAt l i = false) : onceB l = false := by
  unfold onceB
  rw [List.all_eq_false]
  exact ⟨i, List.mem_range.2 hi, by simp [h]⟩
theorem place_take {l : List S} {i : Nat} (hi : i < l.length) : (0 ≤ placeI (l.take i) l[i]) ↔ placeI l l[i] ≠ i := by
  by_cases h : ∃ j, j < i ∧ l.getD j [] = l[i]
  · obtain ⟨j, hj, he⟩ := h
    have hjl : j < l.length := by omega
    constructor
    · intro _ hp
      unfold placeI at hp
      cases hf : l.findIdx? (· == l[i]) with
      | none => rw [hf] at hp; simp only at hp; omega
      | some m =>
        rw [hf] at hp
        simp only at hp
        obtain ⟨hm, -, hno⟩ := List.findIdx?_eq_some_iff_getElem.1 hf
        have := hno j (by omega)
        rw [getDS l _ j hjl] at he
        simp [he] at this
    · intro _
      unfold placeI
      cases hf : (l.take i).findIdx? (· == l[i]) with
      | none =>
        rw [List.findIdx?_eq_none_iff] at hf
        have hjt : j < (l.take i).length := by rw [List.length_take]; omega
        have := hf (l.take i)[j] (List.getElem_mem hjt)
        rw [List.getElem_take, ← getDS l [] j hjl, he] at this
        simp at this
      | some m => simp only; omega
  · have hno : ∀ j, j < i → l.getD j [] ≠ l[i] := fun j hj e => h ⟨j, hj, e⟩
    rw [placeI_hit hi rfl hno]
    rw [placeI_no (l := l.take i) (fun j hj => by
      rw [List.length_take] at hj
      have : (l.take i).getD j [] = l.getD j [] := by
        rw [getDS _ _ j (by rw [List.length_take]; omega), getDS l _ j (by omega), List.getElem_take]
      rw [this]
      exact hno j (by omega))]
    omega
theorem size_Str : ∀ w, (sizeOf (Try.prog.elem 31)).run Try.prog w = .ok 1 w := fun w => by kernel_rfl
set_option maxRecDepth 100000 in
set_option maxHeartbeats 2000000 in
theorem once_any (lo hi : Nat) (l : List S) (v : Value) (w : World) (hv : Strs lo hi w v l) (R : Ending → World → Prop) (hR : R (.returned (.bool (onceB l))) w) :
    Calls Try.prog 67 #[v] w R := by
  have HR := Lib.hid hR
  have Hv := Lib.hid hv
  obtain ⟨ao, cap, rfl, -, hcm, -, hc⟩ := hv.form
  have Hc := Lib.hid hc
  have hlen := hv.len
  clear hR hv hc
  go_enter Try.func67, Try.ntmps67
  go_wp2_with fail
  go_loop [7] (fun t7 => ∃ k : Nat, k ≤ l.length ∧ t7 = .int .i64 k ∧ ∀ i, i < k → onceAt l i = true) (fun t7 => l.length - (intOf t7).toNat)
  case atStart => exact ⟨0, Nat.zero_le _, rfl, fun i h => absurd h (Nat.not_lt_zero _)⟩
  case round =>
    obtain ⟨k, hk, rfl, hno⟩ := hrel
    have Hno := Lib.hid hno
    clear hno
    have kk0 : (0 : Int) ≤ (k : Int) := by omega
    by_cases hlt : k < l.length
    · obtain ⟨b, off, rfl, hb1, hb2, hcc⟩ := Hc.out k hlt
      obtain ⟨cs, _, hcs, rfl⟩ := hcc k hlt
      have g0 := hcs.c1
      rw [Nat.mul_one] at g0
      have kkl : (k : Int) < (l.length : Int) := by omega
      have Hx : Hid (l.getD k [] = l[k]) := Lib.hid (getDS l _ k hlt)
      have Hpt := Lib.hid (place_take hlt)
      obtain ⟨v1, hrun, hvt⟩ := Sl.upTo Hv.out 31 Try.underlying31 size_Str k (by omega)
      have hlk : (l.take k).length = k := by rw [List.length_take]; omega
      have Hvt := Lib.hid hvt
      obtain ⟨at1, c1, rfl, hc1, hc2, -, -⟩ := hvt.form
      rw [hlk] at hrun hc1 Hvt
      clear hcs hcc hvt hlk
      generalize l[k] = y at *
      by_cases h32 : k < 32
      · have c32 : ¬ (32 : Int) ≤ (k : Int) := by omega
        go_wp2_with fail
        refine Contains_any lo hi (l.take k) y _ w Hvt.out _ ?_
        cases hd : decide (0 ≤ placeI (l.take k) y)
        · have Hat : Hid (onceAt l k = true) := Lib.hid (by
            unfold onceAt
            rw [Hx.out, decide_eq_true h32]
            have h := of_decide_eq_false hd
            rw [Hpt.out] at h
            simpa using h)
          clear hd
          go_wp2_with fail
          go_round
          case rel => exact ⟨k + 1, by omega, by go_num, fun i hi => by
            by_cases e : i = k
            · subst e; exact Hat.out
            · exact Hno.out i (by omega)⟩
          case measure => simp [intOf]; omega
        · have hr := HR.out
          rw [onceB_no hlt (by
            unfold onceAt
            rw [Hx.out]
            have h := of_decide_eq_true hd
            rw [Hpt.out] at h
            simp [h])] at hr
          clear hd
          go_wp2_with fail
          first | exact hr | exact fin hr rfl
      · have c32 : (32 : Int) ≤ (k : Int) := by omega
        have hr := HR.out
        rw [onceB_no hlt (by unfold onceAt; rw [decide_eq_false h32]; rfl)] at hr
        go_wp2_with fail
        first | exact hr | exact fin hr rfl
    · obtain rfl : k = l.length := by omega
      have hr := HR.out
      rw [onceB_yes Hno.out] at hr
      go_wp2_with fail
      first | exact hr | exact fin hr rfl
set_option maxRecDepth 100000 in
set_option maxHeartbeats 2000000 in
theorem refOnce_any (lo hi : Nat) (l : List S) (v : Value) (w : World) (hv : Strs lo hi w v l) (R : Ending → World → Prop) (hR : R (.returned (.bool (onceB l))) w) :
    Calls Try.prog 73 #[v] w R := by
  have HR := Lib.hid hR
  have Hv := Lib.hid hv
  obtain ⟨ao, cap, rfl, -, hcm, -, hc⟩ := hv.form
  have Hc := Lib.hid hc
  have hlen := hv.len
  clear hR hv hc
  go_enter Try.func73, Try.ntmps73
  go_wp2_with fail
  go_loop [3] (fun t3 => ∃ k : Nat, k ≤ l.length ∧ t3 = .int .i64 k ∧ ∀ i, i < k → onceAt l i = true) (fun t3 => l.length - (intOf t3).toNat)
  case atStart => exact ⟨0, Nat.zero_le _, rfl, fun i h => absurd h (Nat.not_lt_zero _)⟩
  case round =>
    obtain ⟨k, hk, rfl, hno⟩ := hrel
    have Hno := Lib.hid hno
    clear hno
    have kk0 : (0 : Int) ≤ (k : Int) := by omega
    by_cases hlt : k < l.length
    · obtain ⟨b, off, rfl, hb1, hb2, hcc⟩ := Hc.out k hlt
      obtain ⟨cs, _, hcs, rfl⟩ := hcc k hlt
      have g0 := hcs.c1
      rw [Nat.mul_one] at g0
      have kkl : (k : Int) < (l.length : Int) := by omega
      have Hx : Hid (l.getD k [] = l[k]) := Lib.hid (getDS l _ k hlt)
      clear hcs hcc
      generalize l[k] = y at *
      go_wp2_with fail
      refine place_any lo hi l y _ w Hv.out _ ?_
      by_cases hp : placeI l y = k
      · have c1 : (placeI l y != (k : Int)) = false := by simp [hp]
        by_cases h32 : k < 32
        · have c32 : ¬ (32 : Int) ≤ (k : Int) := by omega
          have Hat : Hid (onceAt l k = true) := Lib.hid (by unfold onceAt; rw [Hx.out, decide_eq_true h32, hp]; simp)
          clear hp
          go_wp2_with fail
          go_round
          case rel => exact ⟨k + 1, by omega, by go_num, fun i hi => by
            by_cases e : i = k
            · subst e; exact Hat.out
            · exact Hno.out i (by omega)⟩
          case measure => simp [intOf]; omega
        · have c32 : (32 : Int) ≤ (k : Int) := by omega
          have hr := HR.out
          rw [onceB_no hlt (by unfold onceAt; rw [decide_eq_false h32]; rfl)] at hr
          clear hp
          go_wp2_with fail
          first | exact hr | exact fin hr rfl
      · have c1 : (placeI l y != (k : Int)) = true := by simp [hp]
        have hr := HR.out
        rw [onceB_no hlt (by unfold onceAt; rw [Hx.out]; simp [hp])] at hr
        clear hp
        go_wp2_with fail
        first | exact hr | exact fin hr rfl
    · obtain rfl : k = l.length := by omega
      have hr := HR.out
      rw [onceB_yes Hno.out] at hr
      go_wp2_with fail
      first | exact hr | exact fin hr rfl
end Go.Proofs.Ytpncblagjkbemaa
