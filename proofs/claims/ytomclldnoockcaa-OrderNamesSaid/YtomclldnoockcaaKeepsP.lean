/- Bytes of keys stand as their parts do; no value's bytes begin another one's. No program in sight. -/
import Derived.Test.YtomclldnoockcaaKeyP
namespace Go.Proofs.Ytomclldnoockcaa
open Go

abbrev cb (a b : List UInt8) : Int := Lib.compareBytes a b
theorem cb_nil : cb [] [] = 0 := rfl
theorem cb_cons (x y : UInt8) (a b : List UInt8) : cb (x :: a) (y :: b) = if x < y then -1 else if y < x then 1 else cb a b := rfl
theorem cb_same (x : UInt8) (a b : List UInt8) : cb (x :: a) (x :: b) = cb a b := by
  rw [cb_cons, if_neg (UInt8.lt_irrefl x), if_neg (UInt8.lt_irrefl x)]
theorem cb_lt {x y : UInt8} (h : x.toNat < y.toNat) (a b : List UInt8) : cb (x :: a) (y :: b) = -1 := by
  rw [cb_cons, if_pos (UInt8.lt_iff_toNat_lt.2 h)]
theorem cb_gt {x y : UInt8} (h : y.toNat < x.toNat) (a b : List UInt8) : cb (x :: a) (y :: b) = 1 := by
  rw [cb_cons, if_neg (by rw [UInt8.lt_iff_toNat_lt]; omega), if_pos (UInt8.lt_iff_toNat_lt.2 h)]
theorem cb_self : ∀ (a : List UInt8), cb a a = 0
  | [] => rfl
  | x :: a => by rw [cb_same]; exact cb_self a
/-- First the one, then the other. -/
def thn (a b : Int) : Int := if a ≠ 0 then a else b
theorem thn_zero (b : Int) : thn 0 b = b := by simp [thn]
theorem thn_ne {a : Int} (h : a ≠ 0) (b : Int) : thn a b = a := by simp [thn, h]

/-! ### numbers -/
def be : Nat → Nat → List UInt8
  | 0, _ => []
  | k + 1, x => UInt8.ofNat (x / 256 ^ k) :: be k (x % 256 ^ k)
theorem ofNat_toNat {d : Nat} (h : d < 256) : (UInt8.ofNat d).toNat = d := by simp only [UInt8.toNat_ofNat']; omega
theorem be_cb (r s : List UInt8) : ∀ (k x y : Nat), x < 256 ^ k → y < 256 ^ k → cb (be k x ++ r) (be k y ++ s) = thn (icmp x y) (cb r s)
  | 0, x, y, hx, hy => by
    obtain rfl : x = 0 := by simpa using hx
    obtain rfl : y = 0 := by simpa using hy
    rw [icmp_eq, thn_zero]; rfl
  | k + 1, x, y, hx, hy => by
    have hp : 0 < 256 ^ k := Nat.pow_pos (by decide)
    have dx : x / 256 ^ k < 256 := Nat.div_lt_of_lt_mul (by rw [Nat.pow_succ] at hx; exact hx)
    have dy : y / 256 ^ k < 256 := Nat.div_lt_of_lt_mul (by rw [Nat.pow_succ] at hy; exact hy)
    have ex := Nat.div_add_mod x (256 ^ k)
    have ey := Nat.div_add_mod y (256 ^ k)
    have mx := Nat.mod_lt x hp
    have my := Nat.mod_lt y hp
    simp only [be, List.cons_append]
    rcases Nat.lt_trichotomy (x / 256 ^ k) (y / 256 ^ k) with h | h | h
    · rw [cb_lt (by rw [ofNat_toNat dx, ofNat_toNat dy]; exact h)]
      have h2 := Nat.mul_le_mul_left (256 ^ k) (show x / 256 ^ k + 1 ≤ y / 256 ^ k from h)
      rw [Nat.mul_add, Nat.mul_one] at h2
      have : (x : Int) < y := by omega
      rw [icmp_lt this]; rfl
    · rw [h, cb_same, be_cb r s k _ _ mx my]
      rw [h] at ex
      rcases Nat.lt_trichotomy (x % 256 ^ k) (y % 256 ^ k) with g | g | g
      · rw [icmp_lt (by omega), icmp_lt (by omega)]
      · rw [g, icmp_eq, show (x : Int) = y by omega, icmp_eq]
      · rw [icmp_gt (by omega), icmp_gt (by omega)]
    · rw [cb_gt (by rw [ofNat_toNat dx, ofNat_toNat dy]; exact h)]
      have h2 := Nat.mul_le_mul_left (256 ^ k) (show y / 256 ^ k + 1 ≤ x / 256 ^ k from h)
      rw [Nat.mul_add, Nat.mul_one] at h2
      have : (y : Int) < x := by omega
      rw [icmp_gt this]; rfl
theorem num8_be (n : Int) : num8 n = be 8 (u64 n) := by
  have h := u64_lt n
  have e : List.range 8 = [0, 1, 2, 3, 4, 5, 6, 7] := rfl
  have ext : ∀ a b : Nat, a % 256 = b % 256 → UInt8.ofNat a = UInt8.ofNat b := fun a b hab => by
    rw [← UInt8.toNat_inj]; simp only [UInt8.toNat_ofNat']; exact hab
  unfold num8
  rw [e]
  generalize u64 n = x at *
  simp only [List.map_cons, List.map_nil, be, dig8]
  refine congr (congrArg List.cons (ext _ _ ?_)) (congr (congrArg List.cons (ext _ _ ?_)) (congr (congrArg List.cons (ext _ _ ?_)) (congr (congrArg List.cons (ext _ _ ?_)) (congr (congrArg List.cons (ext _ _ ?_)) (congr (congrArg List.cons (ext _ _ ?_)) (congr (congrArg List.cons (ext _ _ ?_)) (congr (congrArg List.cons (ext _ _ ?_)) rfl)))))))
  all_goals simp only [Nat.reduceMul, Nat.reduceSub, Nat.reducePow]
  all_goals omega
theorem num8_cb (n m : Int) (hn : -9223372036854775808 ≤ n ∧ n ≤ 9223372036854775807) (hm : -9223372036854775808 ≤ m ∧ m ≤ 9223372036854775807) (r s : List UInt8) :
    cb (num8 n ++ r) (num8 m ++ s) = thn (icmp n m) (cb r s) := by
  rw [num8_be, num8_be, be_cb r s 8 _ _ (u64_lt n) (u64_lt m)]
  have h1 : (u64 n : Int) = n + 9223372036854775808 := by unfold u64; omega
  have h2 : (u64 m : Int) = m + 9223372036854775808 := by unfold u64; omega
  rw [h1, h2]
  rcases Int.lt_trichotomy n m with h | h | h
  · rw [icmp_lt h, icmp_lt (by omega)]
  · rw [h, icmp_eq, icmp_eq]
  · rw [icmp_gt h, icmp_gt (by omega)]

/-! ### texts -/
theorem escs_cb (r u : List UInt8) : ∀ (s t : List UInt8), cb (s.flatMap esc1 ++ 0 :: 1 :: r) (t.flatMap esc1 ++ 0 :: 1 :: u) = thn (cb s t) (cb r u)
  | [], [] => by simp only [List.flatMap_nil, List.nil_append]; rw [cb_same, cb_same, cb_nil, thn_zero]
  | [], c :: t => by
    have h : cb [] (c :: t) = -1 := rfl
    rw [h]
    simp only [List.flatMap_nil, List.nil_append, List.flatMap_cons]
    by_cases hc : c = 0
    · subst hc
      have e : esc1 0 = [0, 255] := rfl
      rw [e]
      simp only [List.cons_append, List.nil_append]
      rw [cb_same, cb_lt (by decide)]; rfl
    · have e : esc1 c = [c] := by simp [esc1, hc]
      rw [e]
      simp only [List.cons_append, List.nil_append]
      have : 0 < c.toNat := by
        have : c.toNat ≠ 0 := fun e => hc (by rw [← UInt8.toNat_inj]; exact e)
        omega
      rw [cb_lt (by simpa using this)]; rfl
  | c :: s, [] => by
    have h : cb (c :: s) [] = 1 := rfl
    rw [h]
    simp only [List.flatMap_nil, List.nil_append, List.flatMap_cons]
    by_cases hc : c = 0
    · subst hc
      have e : esc1 0 = [0, 255] := rfl
      rw [e]
      simp only [List.cons_append, List.nil_append]
      rw [cb_same, cb_gt (by decide)]; rfl
    · have e : esc1 c = [c] := by simp [esc1, hc]
      rw [e]
      simp only [List.cons_append, List.nil_append]
      have : 0 < c.toNat := by
        have : c.toNat ≠ 0 := fun e => hc (by rw [← UInt8.toNat_inj]; exact e)
        omega
      rw [cb_gt (by simpa using this)]; rfl
  | c :: s, d :: t => by
    have ih := escs_cb r u s t
    simp only [List.flatMap_cons]
    by_cases hcd : c = d
    · subst hcd
      rw [cb_same, ← ih]
      unfold esc1
      split
      · simp only [List.cons_append, List.nil_append]; rw [cb_same, cb_same]
      · simp only [List.cons_append, List.nil_append]; rw [cb_same]
    · have hne : c.toNat ≠ d.toNat := fun e => hcd (by rw [← UInt8.toNat_inj]; exact e)
      have h1 : ∃ x, esc1 c = c :: x := by unfold esc1; split; · subst c; exact ⟨_, rfl⟩
                                           · exact ⟨_, rfl⟩
      have h2 : ∃ x, esc1 d = d :: x := by unfold esc1; split; · subst d; exact ⟨_, rfl⟩
                                           · exact ⟨_, rfl⟩
      obtain ⟨x, hx⟩ := h1
      obtain ⟨y, hy⟩ := h2
      rw [hx, hy]
      simp only [List.cons_append]
      by_cases hlt : c.toNat < d.toNat
      · rw [cb_lt hlt, cb_lt hlt]; rfl
      · rw [cb_gt (by omega), cb_gt (by omega)]; rfl
theorem esc_cb (s t r u : List UInt8) : cb (esc s ++ r) (esc t ++ u) = thn (cb s t) (cb r u) := by
  have := escs_cb r u s t
  simpa [esc] using this

/-! ### values -/
theorem mayB_facts {v : V} (h : mayB v = true) : 1 ≤ v.kind ∧ v.kind ≤ 7 ∧ (v.kind = 2 → v.s = [] ∧ 0 ≤ v.n ∧ v.n ≤ 1) ∧ (v.kind = 3 ∨ v.kind = 4 ∨ v.kind = 7 → v.n = 0) ∧ (v.kind = 1 ∨ v.kind = 5 ∨ v.kind = 6 → v.s = []) := by
  unfold mayB at h
  split at h
  · exact ⟨by omega, by omega, fun e => by omega, fun e => by omega, fun _ => by simpa using h⟩
  split at h
  · simp at h
    exact ⟨by omega, by omega, fun e => ⟨h.1, by omega, by omega⟩, fun e => by omega, fun _ => h.1⟩
  split at h
  · simp at h
    exact ⟨by omega, by omega, fun e => by omega, fun e => by omega, fun _ => h.1.1⟩
  split at h
  · simp at h
    exact ⟨by omega, by omega, fun e => by omega, fun _ => h.1, fun e => by omega⟩
  split at h
  · simp at h
    exact ⟨by omega, by omega, fun e => by omega, fun _ => h.1, fun e => by omega⟩
  · cases h
theorem encV_cb {a b : V} (ha : mayB a = true) (hb : mayB b = true) (ra : -9223372036854775808 ≤ a.n ∧ a.n ≤ 9223372036854775807) (rb : -9223372036854775808 ≤ b.n ∧ b.n ≤ 9223372036854775807) (r s : List UInt8) :
    cb (encV a ++ r) (encV b ++ s) = thn (cmpV a b) (cb r s) := by
  obtain ⟨a1, a2, a3, a4, a5⟩ := mayB_facts ha
  obtain ⟨b1, b2, b3, b4, b5⟩ := mayB_facts hb
  have ka : (UInt8.ofNat a.kind.toNat).toNat = a.kind.toNat := ofNat_toNat (by omega)
  have kb : (UInt8.ofNat b.kind.toNat).toNat = b.kind.toNat := ofNat_toNat (by omega)
  unfold encV
  simp only [List.cons_append]
  rcases Int.lt_trichotomy a.kind b.kind with h | h | h
  · rw [cb_lt (by rw [ka, kb]; omega)]
    have : cmpV a b = -1 := by unfold cmpV; rw [icmp_lt h]; rfl
    rw [this]; rfl
  · rw [h, cb_same]
    have hc : cmpV a b = or3 0 (icmp a.n b.n) (cb a.s b.s) := by unfold cmpV; rw [h, icmp_eq]
    rw [hc]
    by_cases e2 : a.kind = 2
    · obtain ⟨sa, na, na'⟩ := a3 e2
      obtain ⟨sb, nb, nb'⟩ := b3 (h ▸ e2)
      have ea : body a = [UInt8.ofNat a.n.toNat] := by simp [body, e2]
      have eb : body b = [UInt8.ofNat b.n.toNat] := by simp [body, ← h, e2]
      have ta : (UInt8.ofNat a.n.toNat).toNat = a.n.toNat := ofNat_toNat (by omega)
      have tb : (UInt8.ofNat b.n.toNat).toNat = b.n.toNat := ofNat_toNat (by omega)
      rw [ea, eb, sa, sb]
      simp only [List.cons_append, List.nil_append]
      rcases Int.lt_trichotomy a.n b.n with g | g | g
      · rw [cb_lt (by rw [ta, tb]; omega), icmp_lt g]; rfl
      · rw [g, cb_same, icmp_eq, cb_nil]; simp [or3, thn]
      · rw [cb_gt (by rw [ta, tb]; omega), icmp_gt g]; rfl
    by_cases e3 : a.kind = 3 ∨ a.kind = 4 ∨ a.kind = 7
    · have na := a4 e3
      have nb := b4 (h ▸ e3)
      have ea : body a = esc a.s := by simp [body, e2, e3]
      have eb : body b = esc b.s := by rw [h] at e2 e3; simp [body, e2, e3]
      rw [ea, eb, esc_cb, na, nb, icmp_eq]
      simp [or3]
    · have sa := a5 (by omega)
      have sb := b5 (by omega)
      have ea : body a = num8 a.n := by simp [body, e2, e3]
      have eb : body b = num8 b.n := by rw [h] at e2 e3; simp [body, e2, e3]
      rw [ea, eb, num8_cb _ _ ra rb, sa, sb, cb_nil]
      by_cases hz : icmp a.n b.n = 0
      · simp [or3, hz]
      · simp [or3, hz]
  · rw [cb_gt (by rw [ka, kb]; omega)]
    have : cmpV a b = 1 := by unfold cmpV; rw [icmp_gt h]; rfl
    rw [this]; rfl
/-- No value's bytes begin another one's. -/
theorem encV_prefix {a b : V} (ha : mayB a = true) (hb : mayB b = true) (ra : -9223372036854775808 ≤ a.n ∧ a.n ≤ 9223372036854775807) (rb : -9223372036854775808 ≤ b.n ∧ b.n ≤ 9223372036854775807)
    (h : (encV b).take (encV a).length = encV a) : cmpV a b = 0 := by
  have h1 := encV_cb ha hb ra rb ((encV b).drop (encV a).length) []
  have h2 : encV a ++ (encV b).drop (encV a).length = encV b := by conv => lhs; arg 1; rw [← h]
                                                                   exact List.take_append_drop _ _
  rw [h2, List.append_nil, cb_self] at h1
  by_cases hz : cmpV a b = 0
  · exact hz
  · rw [thn_ne hz] at h1; exact h1.symm

/-! ### parts -/
def cmpP (a b : Pt) : Int := if a.is then cmpV a.v b.v else icmp a.n b.n
def cmpK : List Pt → List Pt → Int
  | a :: l, b :: m => thn (cmpP a b) (cmpK l m)
  | _, _ => 0
structure PtR (p : Pt) : Prop where
  n : -9223372036854775808 ≤ p.n ∧ p.n ≤ 9223372036854775807
  v : -9223372036854775808 ≤ p.v.n ∧ p.v.n ≤ 9223372036854775807
theorem encK_cb : ∀ (l m : List Pt), l.length = m.length → (∀ i (h : i < l.length) (h2 : i < m.length), l[i].is = m[i].is) → (∀ p ∈ l, PtR p) → (∀ p ∈ m, PtR p) → l.all Pt.ok = true → m.all Pt.ok = true → cb (encK l) (encK m) = cmpK l m
  | [], [], _, _, _, _, _, _ => rfl
  | [], _ :: _, h, _, _, _, _, _ => by simp at h
  | _ :: _, [], h, _, _, _, _, _ => by simp at h
  | a :: l, b :: m, h, his, rl, rm, ol, om => by
    simp only [List.all_cons, Bool.and_eq_true] at ol om
    have ih := encK_cb l m (by simpa using h) (fun i h1 h2 => his (i + 1) (by simpa using h1) (by simpa using h2)) (fun p hp => rl p (List.mem_cons_of_mem _ hp)) (fun p hp => rm p (List.mem_cons_of_mem _ hp)) ol.2 om.2
    have hi : a.is = b.is := his 0 (by simp) (by simp)
    have ra := rl a (List.mem_cons_self ..)
    have rb := rm b (List.mem_cons_self ..)
    have e1 : encK (a :: l) = a.bytes ++ encK l := rfl
    have e2 : encK (b :: m) = b.bytes ++ encK m := rfl
    rw [e1, e2, cmpK, ← ih]
    unfold cmpP Pt.bytes
    cases hb : b.is
    · rw [hb] at hi
      rw [hi]
      simp only [Bool.false_eq_true, if_false]
      exact num8_cb _ _ ra.n rb.n _ _
    · rw [hb] at hi
      rw [hi]
      simp only [if_true]
      exact encV_cb (by simpa [Pt.ok, hi] using ol.1) (by simpa [Pt.ok, hb] using om.1) ra.v rb.v _ _
end Go.Proofs.Ytomclldnoockcaa
