/- slices.BinarySearchFunc of rows; the program's Has. -/
import Derived.Test.YtpncblagjkbemaaRowX
namespace Go.Proofs.Ytpncblagjkbemaa
open Go.RowKit
set_option linter.unusedVariables false
set_option linter.unusedSimpArgs false

theorem wrapU {x : Int} (h1 : 0 ≤ x) (h2 : x ≤ 18446744073709551615) : IntKind.u64.wrap x = x := by
  simp [IntKind.wrap, IntKind.bits, IntKind.signed]; omega
set_option maxRecDepth 100000 in
set_option maxHeartbeats 4000000 in
theorem BinarySearch_any (lo hi l2 h2 : Nat) (l : List (List V)) (lv : Value) (x : List V) (vx : Value) (w : World) (hv : Rws lo hi w lv l) (hhi : hi ≤ w.heap.size) (hx : Row1 l2 h2 w vx x) (hh2 : h2 ≤ w.heap.size) (hup : l.Pairwise fun a b => 0 ≤ cmpR b a) (hlen : l.length ≤ 4000000000000000000) (R : Ending → World → Prop)
    (hR : ∀ w' (i : Nat), Below w.heap.size w w' → i ≤ l.length → (∀ j (h : j < l.length), j < i → cmpR l[j] x < 0) → (∀ j (h : j < l.length), i ≤ j → 0 ≤ cmpR l[j] x) → R (.returned (.tuple #[.int .i64 i, .bool (decide (i < l.length) && (cmpR (l.getD i []) x == 0))])) w') :
    Calls Try.prog 82 #[lv, vx, .func (.func 24) #[] #[]] w R := by
  have HR := Lib.hid hR
  have Hv := Lib.hid hv
  have Hx := Lib.hid hx
  have Hup := Lib.hid hup
  obtain ⟨av, cv2, rfl, -, -, -, -⟩ := hv.form
  obtain ⟨ax, cx, rfl, -, -, -, -⟩ := hx.form
  clear hR hv hx hup
  have he := enters_of Try.func24 (by kernel_rfl) rfl
  go_enter Try.func82, Try.ntmps82
  go_wp2_with fail
  go_loopw [9, 10] (fun t9 t10 wr => ∃ (i j : Nat), i ≤ j ∧ j ≤ l.length ∧ t9 = .int .i64 i ∧ t10 = .int .i64 j ∧ (∀ k (h : k < l.length), k < i → cmpR l[k] x < 0) ∧ (∀ k (h : k < l.length), j ≤ k → 0 ≤ cmpR l[k] x) ∧ Below w.heap.size w wr) (fun t9 t10 _ => (intOf t10).toNat - (intOf t9).toNat)
  case atStart => exact ⟨0, l.length, Nat.zero_le _, Nat.le_refl _, rfl, rfl, fun k _ h => absurd h (Nat.not_lt_zero _), fun k h1 h2 => absurd h1 (by omega), Below.refl _ _⟩
  case round =>
    obtain ⟨i, j, hij, hj, rfl, rfl, hlo, hge, hB⟩ := hrel
    obtain ⟨wo, ewo⟩ : ∃ x, x = wr := ⟨_, rfl⟩
    subst ewo
    have Hlo := Lib.hid hlo
    have Hge := Lib.hid hge
    have HB := Lib.hid hB
    have hzo := hB.size
    have ii0 : (0 : Int) ≤ (i : Int) := by omega
    have jj0 : (0 : Int) ≤ (j : Int) := by omega
    clear hlo hge hB
    by_cases hlt : i < j
    · have iij : (i : Int) < (j : Int) := by omega
      obtain ⟨m, hm⟩ : ∃ m, m = (i + j) / 2 := ⟨_, rfl⟩
      have hmi : i ≤ m := by omega
      have hmj : m < j := by omega
      have w1 : IntKind.i64.wrap ((i : Int) + (j : Int)) = (i : Int) + (j : Int) := wrapOk (by omega) (by omega)
      have w2 : IntKind.u64.wrap ((i : Int) + (j : Int)) = (i : Int) + (j : Int) := wrapU (by omega) (by omega)
      have w3 : ((i : Int) + (j : Int)) / 2 = (m : Int) := by omega
      have mm0 : (0 : Int) ≤ (m : Int) := by omega
      have hml : m < l.length := by omega
      have mml : (m : Int) < (l.length : Int) := by omega
      obtain ⟨b4, o4, rfl, hb4, hrow4⟩ := Rws.at (Sl.below Hv.out rowE_loc HB.out hhi) (by omega) (by omega)
      obtain ⟨p2, c2, g2, r2⟩ := hrow4 m hml
      have g0 := g2 wo (Below.refl _ _)
      have R2 := Lib.hid r2
      have Hlt : Hid (cmpR l[m] x < 0 → ∀ k (h : k < l.length), k < m + 1 → cmpR l[k] x < 0) := Lib.hid (fun hc k hk hkm => by
        by_cases e : k = m
        · subst e; exact hc
        · have h1 := List.pairwise_iff_getElem.1 Hup.out k m hk hml (by omega)
          by_cases h3 : cmpR l[k] l[m] < 0
          · exact cmpR_cmp.trans _ _ _ h3 hc
          · have h4 : cmpR l[k] l[m] = 0 := by
              have := cmpR_cmp.anti l[k] l[m]
              omega
            rw [(cmpR_cmp.zero _ _).1 h4]; exact hc)
      have Hgt : Hid (0 ≤ cmpR l[m] x → ∀ k (h : k < l.length), m ≤ k → 0 ≤ cmpR l[k] x) := Lib.hid (fun hc k hk hkm => by
        by_cases hck : cmpR l[k] x < 0
        · exfalso
          by_cases e : k = m
          · subst e; omega
          · have h1 := List.pairwise_iff_getElem.1 Hup.out m k hml hk (by omega)
            by_cases h3 : cmpR l[m] l[k] < 0
            · have := cmpR_cmp.trans _ _ _ h3 hck; omega
            · have h4 : cmpR l[m] l[k] = 0 := by
                have := cmpR_cmp.anti l[m] l[k]
                omega
              rw [(cmpR_cmp.zero _ _).1 h4] at hc; omega
        · omega)
      clear hrow4 g2 r2 hm
      generalize l[m] = xb at *
      go_wp2_with fail
      refine rowsCompareB_any lo hi l2 h2 xb x _ _ wo R2.out (Sl.below Hx.out Row1.loc HB.out hh2) (by omega) (by omega) _ (fun wq hBq => ?_)
      have HBq := Lib.hid (HB.out.trans (hBq.mono (by omega)))
      clear hBq
      by_cases h0 : cmpR xb x < 0
      · have Hnx := Lib.hid (Hlt.out h0)
        have c0 : cmpR xb x < 0 := h0
        clear Hlt Hgt h0
        generalize cmpR xb x = cv at *
        go_wp2_with fail
        go_roundw
        case rel => exact ⟨m + 1, j, by omega, by omega, by go_num, by go_num, Hnx.out, Hge.out, HBq.out⟩
        case measure => simp [intOf]; omega
      · have Hnx := Lib.hid (Hgt.out (by omega))
        have c0 : ¬ cmpR xb x < 0 := h0
        clear Hlt Hgt h0
        generalize cmpR xb x = cv at *
        go_wp2_with fail
        go_roundw
        case rel => exact ⟨i, m, by omega, by omega, by go_num, by go_num, Hlo.out, Hnx.out, HBq.out⟩
        case measure => simp [intOf]; omega
    · obtain rfl : i = j := by omega
      have llt : ¬ ((i : Nat) : Int) < (i : Int) := by omega
      by_cases hil : i < l.length
      · have iil : (i : Int) < (l.length : Int) := by omega
        obtain ⟨b4, o4, rfl, hb4, hrow4⟩ := Rws.at (Sl.below Hv.out rowE_loc HB.out hhi) (by omega) (by omega)
        obtain ⟨p2, c2, g2, r2⟩ := hrow4 i hil
        have g0 := g2 wo (Below.refl _ _)
        have R2 := Lib.hid r2
        have HR2 := Lib.hid (fun w' hB => HR.out w' i hB hj Hlo.out Hge.out)
        rw [show l.getD i [] = l[i] from getDS l _ i hil, decide_eq_true hil, Bool.true_and] at HR2
        clear hrow4 g2 r2 HR
        generalize l[i] = xb at *
        go_wp2_with fail
        refine rowsCompareB_any lo hi l2 h2 xb x _ _ wo R2.out (Sl.below Hx.out Row1.loc HB.out hh2) (by omega) (by omega) _ (fun wq hBq => ?_)
        have hr := HR2.out wq (HB.out.trans (hBq.mono (by omega)))
        clear hBq
        generalize cmpR xb x = cv at *
        go_wp2_with fail
        first | exact hr | exact fin hr rfl
      · have iil : ¬ (i : Int) < (l.length : Int) := by omega
        have hr := HR.out wo i HB.out hj Hlo.out Hge.out
        rw [decide_eq_false hil, Bool.false_and] at hr
        go_wp2_with fail
        first | exact hr | exact fin hr rfl
def hasB (cols : List S) (l : List (List V)) (x : List V) : Bool := mayRel cols l && l.any (fun y => cmpR y x == 0)
theorem may_up {cols : List S} {l : List (List V)} (h : mayRel cols l = true) : l.Pairwise fun a b => cmpR a b < 0 := by
  have step : ∀ i, i + 1 < l.length → cmpR (l.getD i []) (l.getD (i + 1) []) < 0 := by
    intro i hi
    unfold mayRel at h
    rw [Bool.and_eq_true, List.all_eq_true] at h
    have := h.2 (i + 1) (List.mem_range.2 hi)
    unfold mayAt at this
    rw [Bool.and_eq_true] at this
    simpa using this.2
  have key : ∀ d i, i + (d + 1) < l.length → cmpR (l.getD i []) (l.getD (i + (d + 1)) []) < 0 := by
    intro d
    induction d with
    | zero => intro i hi; exact step i hi
    | succ d ih => intro i hi; exact cmpR_cmp.trans _ _ _ (ih i (by omega)) (step (i + (d + 1)) (by omega))
  rw [List.pairwise_iff_getElem]
  intro i j hi hj hij
  have := key (j - i - 1) i (by omega)
  rw [show i + (j - i - 1 + 1) = j by omega, getDS l _ i hi, getDS l _ j hj] at this
  exact this
theorem may_weak {cols : List S} {l : List (List V)} (h : mayRel cols l = true) : l.Pairwise fun a b => 0 ≤ cmpR b a :=
  (may_up h).imp (fun {a b} hab => by have := cmpR_cmp.anti a b; omega)
/-- The lower bound meets the row, if it is there. -/
theorem bound_has {l : List (List V)} {x : List V} {i : Nat} (hup : l.Pairwise fun a b => cmpR a b < 0) (hi : i ≤ l.length) (hlo : ∀ j (h : j < l.length), j < i → cmpR l[j] x < 0) (hge : ∀ j (h : j < l.length), i ≤ j → 0 ≤ cmpR l[j] x) :
    (decide (i < l.length) && (cmpR (l.getD i []) x == 0)) = l.any (fun y => cmpR y x == 0) := by
  rw [Bool.eq_iff_iff, Bool.and_eq_true, List.any_eq_true]
  constructor
  · rintro ⟨h1, h2⟩
    have h1 := of_decide_eq_true h1
    exact ⟨l[i], List.getElem_mem h1, by rw [← getDS l [] i h1]; exact h2⟩
  · rintro ⟨y, hy, h0⟩
    obtain ⟨j, hj, rfl⟩ := List.getElem_of_mem hy
    have h0 : cmpR l[j] x = 0 := by simpa using h0
    have hij : i ≤ j := by
      rcases Nat.lt_or_ge j i with h | h
      · have := hlo j hj h; omega
      · exact h
    have hil : i < l.length := by omega
    refine ⟨decide_eq_true hil, ?_⟩
    by_cases e : i = j
    · subst e; rw [getDS l _ i hil]; simpa using h0
    · have h1 := List.pairwise_iff_getElem.1 hup i j hil hj (by omega)
      rw [(cmpR_cmp.zero _ _).1 h0] at h1
      have := hge i hil (Nat.le_refl _); omega
set_option maxRecDepth 100000 in
set_option maxHeartbeats 4000000 in
theorem Has_any (lo hi lc hc l2 h2 : Nat) (rc : List S) (ac : Option Addr) (cc : Nat) (l : List (List V)) (lv : Value) (x : List V) (vx : Value) (w : World) (hrc : Strs lc hc w (.slice ac rc.length cc) rc) (hhc : hc ≤ w.heap.size) (hv : Rws lo hi w lv l) (hhi : hi ≤ w.heap.size) (hx : Row1 l2 h2 w vx x) (hh2 : h2 ≤ w.heap.size) (R : Ending → World → Prop)
    (hR : ∀ w', Below w.heap.size w w' → R (.returned (.bool (hasB rc l x))) w') : Calls Try.prog 39 #[.agg #[.slice ac rc.length cc, lv], vx] w R := by
  have HR := Lib.hid hR
  have Hv := Lib.hid hv
  have Hrc := Lib.hid hrc
  have Hx := Lib.hid hx
  obtain ⟨av, cv2, rfl, -, -, -, -⟩ := hv.form
  obtain ⟨ax, cx, rfl, -, -, -, -⟩ := hx.form
  clear hR hv hrc hx
  go_enter Try.func39, Try.ntmps39
  go_upto_region 1 with fail
  have hBa := alloc_below w (.cells #[.slice ac rc.length cc, .slice av l.length cv2] 34)
  have hba := Blk.new w [.slice ac rc.length cc, .slice av l.length cv2] 34 rfl
  generalize w.alloc (.cells #[.slice ac rc.length cc, .slice av l.length cv2] 34) = w2 at *
  have HB := Lib.hid hBa
  have Hb1 := Lib.hid hba
  have hz2 := hBa.size
  have hl1 := hba.lt
  obtain ⟨c0, c1⟩ := hba.cells.c2
  simp only [Nat.zero_add] at c1
  clear hBa hba
  go_wp2_with fail
  refine May_any lo hi lc hc rc _ _ l _ w2 (Sl.below Hrc.out Strs.loc HB.out hhc) (by omega) (Sl.below Hv.out rowE_loc HB.out hhi) (by omega) _ (fun w5 hB5 => ?_)
  have hz5 := hB5.size
  have HB5 := Lib.hid (HB.out.trans (hB5.mono (by omega)))
  obtain ⟨c0, c1⟩ := (Hb1.out.below hB5 hl1).cells.c2
  simp only [Nat.zero_add] at c1
  clear hB5
  cases hm : mayRel rc l
  · have hr := HR.out w5 HB5.out
    rw [show hasB rc l x = false by unfold hasB; rw [hm]; rfl] at hr
    clear hm
    go_wp2_with fail
    first | exact hr | exact fin hr rfl
  have he : hasB rc l x = l.any (fun y => cmpR y x == 0) := by unfold hasB; rw [hm]; rfl
  rw [he] at HR
  have Hup := Lib.hid (may_up hm)
  have Hwk := Lib.hid (may_weak hm)
  have hml := (may_many hm).1
  clear he hm
  go_wp2_with fail
  refine BinarySearch_any lo hi l2 h2 l _ x _ w5 (Sl.below Hv.out rowE_loc HB5.out hhi) (by omega) (Sl.below Hx.out Row1.loc HB5.out hh2) (by omega) Hwk.out (by omega) _ (fun w6 i hB6 hil h1 h2 => ?_)
  rw [bound_has Hup.out hil h1 h2]
  have hr := HR.out w6 (HB5.out.trans (hB6.mono (by omega)))
  clear hB6 h1 h2
  generalize l.any (fun y => cmpR y x == 0) = bb at *
  go_wp2_with fail
  first | exact hr | exact fin hr rfl
end Go.Proofs.Ytpncblagjkbemaa
