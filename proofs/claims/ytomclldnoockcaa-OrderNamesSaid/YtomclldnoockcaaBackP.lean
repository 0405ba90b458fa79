/- Parts are read as they were written; what is read, written, are the bytes. No program in sight. -/
import Derived.Test.YtomclldnoockcaaReadP
import Derived.Test.YtomclldnoockcaaKeepsP
namespace Go.Proofs.Ytomclldnoockcaa

theorem foldl8 (l : List UInt8) (a : Nat) : l.foldl (fun v c => v * 256 + c.toNat) a = a * 256 ^ l.length + val8 l := by
  induction l generalizing a with
  | nil => simp [val8]
  | cons c r ih =>
    have h := ih (0 * 256 + c.toNat)
    simp only [List.foldl_cons, List.length_cons, val8]
    rw [ih, h, Nat.pow_succ]
    simp only [Nat.add_mul, Nat.zero_mul, Nat.zero_add, Nat.mul_assoc]
    rw [Nat.mul_comm 256]
    omega
theorem val8_cons (c : UInt8) (r : List UInt8) : val8 (c :: r) = c.toNat * 256 ^ r.length + val8 r := by
  have := foldl8 r (0 * 256 + c.toNat)
  simpa [val8] using this
theorem be_val8 : ∀ (l : List UInt8), be l.length (val8 l) = l
  | [] => rfl
  | c :: r => by
    have h := val8_lt r
    have hp : 0 < 256 ^ r.length := Nat.pow_pos (by decide)
    have h1 : val8 (c :: r) / 256 ^ r.length = c.toNat := by
      rw [val8_cons, Nat.mul_comm, Nat.mul_add_div hp, Nat.div_eq_of_lt h, Nat.add_zero]
    have h2 : val8 (c :: r) % 256 ^ r.length = val8 r := by
      rw [val8_cons, Nat.mul_comm, Nat.mul_add_mod, Nat.mod_eq_of_lt h]
    simp only [List.length_cons, be]
    rw [h1, h2, be_val8 r]
    congr 1
    exact UInt8.ofNat_toNat
theorem be_length : ∀ (k x : Nat), (be k x).length = k
  | 0, _ => rfl
  | k + 1, x => by simp only [be, List.length_cons, be_length k]
theorem val8_be : ∀ (k x : Nat), x < 256 ^ k → val8 (be k x) = x
  | 0, x, h => by have : x = 0 := by simpa using h
                  subst this; rfl
  | k + 1, x, h => by
    have hp : 0 < 256 ^ k := Nat.pow_pos (by decide)
    have dx : x / 256 ^ k < 256 := Nat.div_lt_of_lt_mul (by rw [Nat.pow_succ] at h; exact h)
    simp only [be]
    rw [val8_cons, be_length, val8_be k _ (Nat.mod_lt _ hp), ofNat_toNat dx, Nat.mul_comm]
    exact Nat.div_add_mod x (256 ^ k)
theorem numI_num8 (n : Int) (h : -9223372036854775808 ≤ n ∧ n ≤ 9223372036854775807) : numI (num8 n) = n := by
  rw [num8_be, numI, val8_be 8 _ (u64_lt n)]
  unfold u64; omega
theorem num8_numI (l : List UInt8) (h : l.length = 8) : num8 (numI l) = l := by
  have hl := val8_lt l
  rw [h] at hl
  have hl2 : val8 l < 18446744073709551616 := hl
  have e : u64 (numI l) = val8 l := by unfold u64 numI; omega
  rw [num8_be, e, ← h, be_val8]

theorem txt_esc : ∀ (s rest : List UInt8), txt (esc s ++ rest) = (s, rest, false)
  | [], rest => by simp [esc, txt_z1]
  | c :: s, rest => by
    have ih := txt_esc s rest
    have e : esc (c :: s) ++ rest = esc1 c ++ (esc s ++ rest) := by simp [esc]
    rw [e]
    by_cases hc : c = 0
    · subst hc
      have : esc1 0 = [0, 255] := rfl
      rw [this]
      simp only [List.cons_append, List.nil_append]
      rw [txt_zf, ih]
    · have : esc1 c = [c] := by simp [esc1, hc]
      rw [this]
      simp only [List.cons_append, List.nil_append]
      rw [txt_ne c _ hc, ih]
theorem esc_cons (c : UInt8) (s : List UInt8) : esc (c :: s) = esc1 c ++ esc s := by simp [esc]
theorem esc_txt : ∀ (l : List UInt8), (txt l).2.2 = false → l = esc (txt l).1 ++ (txt l).2.1
  | [], h => by simp [txt] at h
  | [c], h => by unfold txt at h; split at h <;> simp at h
  | c :: d :: r, h => by
    by_cases hc : c = 0
    · subst hc
      by_cases h1 : d = 1
      · subst h1; rw [txt_z1]; simp [esc]
      by_cases hf : d = 255
      · subst hf
        rw [txt_zf] at h ⊢
        have ih := esc_txt r h
        simp only [esc_cons]
        have : esc1 0 = [0, 255] := rfl
        rw [this]
        simp only [List.cons_append, List.nil_append, List.append_assoc]
        rw [← ih]
      · rw [txt_zd d r h1 hf] at h; cases h
    · rw [txt_ne c _ hc] at h ⊢
      have ih := esc_txt (d :: r) h
      simp only [esc_cons]
      have : esc1 c = [c] := by simp [esc1, hc]
      rw [this]
      simp only [List.cons_append, List.nil_append]
      rw [← ih]

theorem oneV_encV (v : V) (rest : List UInt8) (h : mayB v = true) (hr : -9223372036854775808 ≤ v.n ∧ v.n ≤ 9223372036854775807) : oneV (encV v ++ rest) = some (v, rest) := by
  obtain ⟨h1, h2, h3, h4, h5⟩ := mayB_facts h
  have hk : (UInt8.ofNat v.kind.toNat).toNat = v.kind.toNat := ofNat_toNat (by omega)
  have hki : ∀ (c : UInt8), UInt8.ofNat v.kind.toNat = c ↔ v.kind = c.toNat := fun c => by
    constructor
    · intro e; rw [← e, hk]; omega
    · intro e; rw [← UInt8.toNat_inj, hk]; omega
  have q2 := hki 2
  have q3 := hki 3
  have q4 := hki 4
  have q7 := hki 7
  have r2 : ((2 : UInt8).toNat : Int) = 2 := rfl
  have r3 : ((3 : UInt8).toNat : Int) = 3 := rfl
  have r4 : ((4 : UInt8).toNat : Int) = 4 := rfl
  have r7 : ((7 : UInt8).toNat : Int) = 7 := rfl
  rw [r2] at q2
  rw [r3] at q3
  rw [r4] at q4
  rw [r7] at q7
  obtain ⟨kind, n, s⟩ := v
  simp only at *
  have hkk : ((UInt8.ofNat kind.toNat).toNat : Int) = kind := by rw [hk]; omega
  unfold encV body
  simp only [List.cons_append, oneV]
  by_cases e2 : kind = 2
  · obtain ⟨s0, n0, n1⟩ := h3 e2
    have hn : ((UInt8.ofNat n.toNat).toNat : Int) = n := by rw [ofNat_toNat (by omega)]; omega
    rw [if_pos (q2.2 e2)]
    simp only [e2, if_true, List.cons_append, List.nil_append]
    rw [hn]
    subst s0 e2
    unfold chkV
    rw [if_pos h]
  · rw [if_neg (fun e => e2 (q2.1 e))]
    by_cases e3 : kind = 3 ∨ kind = 4 ∨ kind = 7
    · have n0 := h4 e3
      rw [if_pos (by rcases e3 with e | e | e; exact .inl (q3.2 e); exact .inr (.inl (q4.2 e)); exact .inr (.inr (q7.2 e)))]
      simp only [e2, e3, if_false, if_true]
      rw [txt_esc]
      simp only [Bool.false_eq_true, if_false]
      rw [hkk]
      subst n0
      unfold chkV
      rw [if_pos h]
    · have s0 := h5 (by omega)
      rw [if_neg (fun e => e3 (by rcases e with e | e | e; exact .inl (q3.1 e); exact .inr (.inl (q4.1 e)); exact .inr (.inr (q7.1 e))))]
      simp only [e2, e3, if_false]
      rw [if_neg (by rw [List.length_append, num8_length]; omega)]
      have t : (num8 n ++ rest).take 8 = num8 n := by rw [List.take_append_of_le_length (by rw [num8_length]; exact Nat.le_refl _), List.take_of_length_le (by rw [num8_length]; exact Nat.le_refl _)]
      have t2 : (num8 n ++ rest).drop 8 = rest := by
        have := List.drop_left (l₁ := num8 n) (l₂ := rest)
        rwa [num8_length] at this
      rw [t, t2, numI_num8 n hr, hkk]
      subst s0
      unfold chkV
      rw [if_pos h]
theorem encV_oneV (r : List UInt8) (v : V) (r' : List UInt8) (h : oneV r = some (v, r')) : mayB v = true ∧ r = encV v ++ r' := by
  have hc : ∀ (x : V) (y : List UInt8), chkV x y = some (v, r') → mayB v = true ∧ x = v ∧ y = r' := fun x y h => by
    unfold chkV at h
    split at h
    · rename_i hm
      simp only [Option.some.injEq, Prod.mk.injEq] at h
      obtain ⟨rfl, rfl⟩ := h
      exact ⟨hm, rfl, rfl⟩
    · cases h
  have hof : ∀ (k : UInt8), UInt8.ofNat ((k.toNat : Int)).toNat = k := fun k => by rw [Int.toNat_natCast]; exact UInt8.ofNat_toNat
  cases r with
  | nil => simp [oneV] at h
  | cons k t =>
    simp only [oneV] at h
    split at h
    · rename_i hk
      subst hk
      cases t with
      | nil => cases h
      | cons c t =>
        obtain ⟨hm, rfl, rfl⟩ := hc _ _ h
        refine ⟨hm, ?_⟩
        simp only [encV, body, if_true]
        rw [hof]
        rfl
    · rename_i hk2
      have hk2' : (k.toNat : Int) ≠ 2 := fun e => hk2 (by rw [← UInt8.toNat_inj]; show k.toNat = 2; omega)
      split at h
      · rename_i hk3
        have hk3' : (k.toNat : Int) = 3 ∨ (k.toNat : Int) = 4 ∨ (k.toNat : Int) = 7 := by rcases hk3 with rfl | rfl | rfl; exact .inl rfl; exact .inr (.inl rfl); exact .inr (.inr rfl)
        split at h
        · cases h
        · rename_i hb
          obtain ⟨hm, rfl, rfl⟩ := hc _ _ h
          refine ⟨hm, ?_⟩
          have ht := esc_txt t (by simpa using hb)
          simp only [encV, body, hk2', hk3', if_false, if_true, List.cons_append]
          rw [hof, ← ht]
      · rename_i hk3
        have hk3' : ¬ ((k.toNat : Int) = 3 ∨ (k.toNat : Int) = 4 ∨ (k.toNat : Int) = 7) := fun e => hk3 (by
          rcases e with e | e | e
          · exact .inl (by rw [← UInt8.toNat_inj]; show k.toNat = 3; omega)
          · exact .inr (.inl (by rw [← UInt8.toNat_inj]; show k.toNat = 4; omega))
          · exact .inr (.inr (by rw [← UInt8.toNat_inj]; show k.toNat = 7; omega)))
        split at h
        · cases h
        · rename_i h8
          obtain ⟨hm, rfl, rfl⟩ := hc _ _ h
          refine ⟨hm, ?_⟩
          simp only [encV, body, hk2', hk3', if_false, List.cons_append]
          rw [hof, num8_numI _ (by rw [List.length_take]; omega), List.take_append_drop]

def cleanP (p : Pt) : Pt := if p.is then ⟨true, 0, p.v⟩ else ⟨false, p.n, ⟨0, 0, []⟩⟩
theorem readK_encK : ∀ (l : List Pt), (∀ p ∈ l, PtR p) → l.all Pt.ok = true → readK (l.map (·.is)) (encK l) = some (l.map cleanP)
  | [], _, _ => rfl
  | p :: l, hr, ho => by
    simp only [List.all_cons, Bool.and_eq_true] at ho
    have ih := readK_encK l (fun q hq => hr q (List.mem_cons_of_mem _ hq)) ho.2
    have rp := hr p (List.mem_cons_self ..)
    have e : encK (p :: l) = p.bytes ++ encK l := rfl
    rw [e]
    simp only [List.map_cons]
    cases hp : p.is
    · have eb : p.bytes = num8 p.n := by simp [Pt.bytes, hp]
      rw [eb]
      simp only [readK]
      rw [if_neg (by rw [List.length_append, num8_length]; omega)]
      have t : (num8 p.n ++ encK l).take 8 = num8 p.n := by rw [List.take_append_of_le_length (by rw [num8_length]; exact Nat.le_refl _), List.take_of_length_le (by rw [num8_length]; exact Nat.le_refl _)]
      have t2 : (num8 p.n ++ encK l).drop 8 = encK l := by
        have := List.drop_left (l₁ := num8 p.n) (l₂ := encK l)
        rwa [num8_length] at this
      rw [t, t2, numI_num8 _ rp.n, ih]
      simp [cleanP, hp]
    · have eb : p.bytes = encV p.v := by simp [Pt.bytes, hp]
      have hm : mayB p.v = true := by simpa [Pt.ok, hp] using ho.1
      rw [eb]
      simp only [readK]
      rw [oneV_encV _ _ hm rp.v]
      simp only
      rw [ih]
      simp [cleanP, hp]
theorem encK_readK : ∀ (ks : List Bool) (b : List UInt8) (l : List Pt), readK ks b = some l → l.all Pt.ok = true ∧ encK l = b
  | [], b, l, h => by
    simp only [readK] at h
    split at h
    · rename_i hb
      cases h
      exact ⟨rfl, (List.isEmpty_iff.1 hb).symm⟩
    · cases h
  | true :: ks, b, l, h => by
    simp only [readK] at h
    cases ho : oneV b with
    | none => rw [ho] at h; cases h
    | some x =>
      obtain ⟨v, r⟩ := x
      rw [ho] at h
      simp only [Option.map_eq_some_iff] at h
      obtain ⟨m, hm, rfl⟩ := h
      obtain ⟨h1, h2⟩ := encK_readK ks r m hm
      obtain ⟨h3, h4⟩ := encV_oneV b v r ho
      refine ⟨by simp [Pt.ok, h1, h3], ?_⟩
      have e : encK (⟨true, 0, v⟩ :: m) = encV v ++ encK m := rfl
      rw [e, h2, h4]
  | false :: ks, b, l, h => by
    simp only [readK] at h
    split at h
    · cases h
    · rename_i h8
      simp only [Option.map_eq_some_iff] at h
      obtain ⟨m, hm, rfl⟩ := h
      obtain ⟨h1, h2⟩ := encK_readK ks (b.drop 8) m hm
      refine ⟨by simp [Pt.ok, h1], ?_⟩
      have e : encK (⟨false, numI (b.take 8), ⟨0, 0, []⟩⟩ :: m) = num8 (numI (b.take 8)) ++ encK m := rfl
      rw [e, h2, num8_numI _ (by rw [List.length_take]; omega), List.take_append_drop]
end Go.Proofs.Ytomclldnoockcaa
