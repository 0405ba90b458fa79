/- The document's rows: put. -/
import Derived.Test.YtpncblagjkbemaaRowG
import Derived.Deep.Slices
namespace Go.Proofs.Ytpncblagjkbemaa
open Go.RowKit
set_option linter.unusedVariables false
set_option linter.unusedSimpArgs false

/-- A row's header. -/
structure HD where
  a : Option Addr
  n : Nat
  c : Nat
  deriving Inhabited
def HD.v (h : HD) : Value := .slice h.a h.n h.c
def HD.enc (h : HD) : List Value := [.slice h.a h.n h.c]
theorem HD.one : ∀ x : HD, ∀ u ∈ HD.enc x, u.oneCell' = true := fun x u hu => by
  simp only [HD.enc, List.mem_cons, List.not_mem_nil, or_false] at hu
  subst hu; rfl
abbrev OwnHD := Own HD.enc 42 1
theorem rws_raw {lo hi : Nat} {w : World} {v : Value} {xs : List (List V)} (h : Rws lo hi w v xs) : ∃ hs : List HD, hs.length = xs.length ∧ Sl (flat HD.enc) 1 lo hi w v hs ∧ ∀ i (h1 : i < hs.length) (h2 : i < xs.length), Row1 lo hi w hs[i].v xs[i] := by
  obtain ⟨ao, cap, hv, hle, hcm, hn, hc⟩ := h.form
  by_cases hx : xs = []
  · subst hx
    exact ⟨[], rfl, ⟨ao, cap, hv, hle, by simpa [maxLen] using hcm, hn, fun hne => absurd rfl hne⟩, fun i h1 => absurd h1 (Nat.not_lt_zero _)⟩
  · have h0 : 0 < xs.length := by
      cases xs with
      | nil => exact absurd rfl hx
      | cons a r => simp
    obtain ⟨b, off, rfl, hb1, hb2, hcc⟩ := hc 0 h0
    have hi' : ∀ i, i < xs.length → ∃ p : HD, CellsAt w b (off + i * 1) p.enc ∧ Row1 lo hi w p.v (xs.getD i []) := by
      intro i hil
      obtain ⟨cs, hl, hcs, sv, rfl, hsv⟩ := hcc i hil
      have hsv' := hsv
      obtain ⟨sa, sc, hsl, -, -, -, -⟩ := hsv'.form
      subst hsl
      exact ⟨⟨sa, xs[i].length, sc⟩, hcs, by rw [getDS xs [] i hil]; exact hsv⟩
    obtain ⟨F, hF⟩ := Deep.choose_lt hi'
    have hlen : ((List.range xs.length).map F).length = xs.length := by simp
    refine ⟨(List.range xs.length).map F, hlen, ⟨some ⟨b, off, none⟩, cap, by rw [hlen]; exact hv, by rw [hlen]; exact hle, by simpa [maxLen] using hcm, hn, fun _ => ⟨b, off, rfl, hb1, hb2, fun k hk => ?_⟩⟩, fun i h1 h2 => ?_⟩
    · rw [hlen] at hk
      exact ⟨_, rfl, by simpa using (hF k hk).1, by simp [flat]⟩
    · simp only [List.getElem_map, List.getElem_range]
      have := (hF i h2).2
      rwa [getDS xs [] i h2] at this
/-- Rows of which the headers are a call's own; their values lie where they may, but not among the headers. -/
def LR (lo rl : Nat) (w : World) (v : Value) (xs : List (List V)) : Prop :=
  ∃ hs : List HD, hs.length = xs.length ∧ OwnHD lo w v hs ∧ ∀ i (h1 : i < hs.length) (h2 : i < xs.length), ∃ a b, rl ≤ a ∧ Row1 a b w hs[i].v xs[i] ∧ b ≤ w.heap.size ∧ ∀ k, v.ownBlock = some k → k < a ∨ b ≤ k
theorem infoHD : (Try.prog.info? 42).map (fun i => (i.zero, i.size, i.bytes)) = some (some (.slice none 0 0), 1, 24) := infoH
theorem LR.nil (lo rl : Nat) (w : World) : LR lo rl w (.slice none 0 0) [] := ⟨[], rfl, Own.nil _ _ _ _ _, fun i h => absurd h (Nat.not_lt_zero _)⟩
theorem LR.slice {lo rl : Nat} {w : World} {v : Value} {xs : List (List V)} (h : LR lo rl w v xs) : ∃ p c, v = .slice p xs.length c := by
  obtain ⟨hs, hl, ho, -⟩ := h
  obtain ⟨p, c, e⟩ := Own.slice ho
  exact ⟨p, c, by rw [e, hl]⟩
theorem LR.rws {lo rl : Nat} {w : World} {v : Value} {xs : List (List V)} (h : LR lo rl w v xs) (hrl : rl ≤ lo) : Rws rl w.heap.size w v xs := by
  obtain ⟨hs, hl, ho, hr⟩ := h
  have hsl : Sl (flat HD.enc) 1 lo w.heap.size w v hs := Sl.ofOwn (fun _ => rfl) ho
  obtain ⟨ao, cap, hv, hle, hcm, hn, hc⟩ := hsl.form
  refine ⟨ao, cap, by rw [hv, hl], by rw [← hl]; exact hle, by simpa [maxLen] using hcm, hn, fun hne => ?_⟩
  have h0 : 0 < hs.length := by
    rw [hl]
    cases xs with
    | nil => exact absurd rfl hne
    | cons a r => simp
  obtain ⟨b, off, rfl, hb1, hb2, hcc⟩ := hc 0 h0
  refine ⟨b, off, rfl, Nat.le_trans hrl hb1, hb2, fun k hk => ?_⟩
  have hk' : k < hs.length := by rw [hl]; exact hk
  obtain ⟨cs, hcl, hcs, rfl⟩ := hcc k hk'
  obtain ⟨a, b', hra, hsp, hb', -⟩ := hr k hk' hk
  exact ⟨_, hcl, hcs, hs[k].v, rfl, hsp.mono Row1.loc hra hb'⟩
theorem LR.kept {lo rl : Nat} {w w' : World} {v : Value} {xs : List (List V)} (h : LR lo rl w v xs) (hB : Below w.heap.size w w') : LR lo rl w' v xs := by
  obtain ⟨hs, hl, ho, hr⟩ := h
  exact ⟨hs, hl, Own.kept ho hB, fun i h1 h2 => by
    obtain ⟨a, b, e0, e1, e2, e3⟩ := hr i h1 h2
    exact ⟨a, b, e0, e1.below Row1.loc hB e2, Nat.le_trans e2 hB.size, e3⟩⟩
theorem LR.lower {lo lo' rl : Nat} {w : World} {v : Value} {xs : List (List V)} (h : LR lo rl w v xs) (hl' : lo' ≤ lo) : LR lo' rl w v xs := by
  obtain ⟨hs, hl, ho, hr⟩ := h
  exact ⟨hs, hl, Own.lower ho hl', hr⟩
theorem LR.lt {lo rl : Nat} {w : World} {v : Value} {xs : List (List V)} (h : LR lo rl w v xs) : ∀ k, v.ownBlock = some k → lo ≤ k ∧ k < w.heap.size := by
  obtain ⟨hs, hl, ho, hr⟩ := h
  exact Own.lt ho
/-- Rows more. -/
theorem LR.app {lo rl a0 b0 : Nat} {w : World} {v x : Value} {xs ys : List (List V)} (h : LR lo rl w v xs) (hx : Rws a0 b0 w x ys) (hra : rl ≤ a0) (hb0 : b0 ≤ w.heap.size) (ha0 : ∀ k, v.ownBlock = some k → k < a0 ∨ b0 ≤ k) (hb : xs.length + ys.length ≤ 5000000000000) (hlo : lo ≤ w.heap.size) :
    ∃ v' w', (Builtin.append_ #[32, 32] 32 #[v, x]).run Try.prog w = .ok v' w' ∧ LR lo rl w' v' (xs ++ ys) ∧ Appended w v w' v' := by
  obtain ⟨hs, hl, ho, hr⟩ := h
  obtain ⟨qs, hql, hq, hqr⟩ := rws_raw hx
  obtain ⟨i0, hi, hz0, hz1, hz2⟩ := info_parts infoHD
  obtain ⟨v', w', hrun, ho', hap⟩ := Own.app ho _ _ _ i0 _ 24 Try.underlying32 hi hz0 hz1 hz2 rfl (Src.ofSl hq (fun _ => rfl) HD.one Try.underlying32) (by omega) (by omega) hlo
  refine ⟨v', w', hrun, ⟨hs ++ qs, by simp [hl, hql], ho', fun i h1 h2 => ?_⟩, hap⟩
  have key : ∀ {a b : Nat} {u : Value} {l : List V}, rl ≤ a → Row1 a b w u l → b ≤ w.heap.size → (∀ k, v.ownBlock = some k → k < a ∨ b ≤ k) → ∃ a b, rl ≤ a ∧ Row1 a b w' u l ∧ b ≤ w'.heap.size ∧ ∀ k, v'.ownBlock = some k → k < a ∨ b ≤ k := by
    intro a b u l e0 e1 e2 e3
    refine ⟨a, b, e0, e1.agree Row1.loc (hap.agree e2 e3), Nat.le_trans e2 hap.grown.size, fun k hk => ?_⟩
    rcases hap.moved with e | ⟨m, e, hm⟩
    · rw [e] at hk; exact e3 k hk
    · rw [e] at hk; injection hk with hk; omega
  by_cases hi2 : i < hs.length
  · rw [List.getElem_append_left hi2, List.getElem_append_left (by omega)]
    obtain ⟨a, b, e0, e1, e2, e3⟩ := hr i hi2 (by omega)
    exact key e0 e1 e2 e3
  · rw [List.getElem_append_right (by omega), List.getElem_append_right (by omega)]
    have e : i - hs.length = i - xs.length := by omega
    have hlt : i - hs.length < qs.length := by rw [List.length_append] at h1; omega
    have := hqr (i - hs.length) hlt (by omega)
    simp only [e] at this ⊢
    exact key hra this hb0 ha0
end Go.Proofs.Ytpncblagjkbemaa
