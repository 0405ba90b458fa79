/- The document's tree: a list of pairs. -/
import Derived.Test.YtmlcnfomiemdpaaKp
import Derived.Test.YtmlcnfomiemdpaaTreeStP
import Derived.Laws.Cover1
namespace Go.Proofs.Ytmlcnfomiemdpaa
open Go.RowKit
attribute [local go_sem ↓] Go.wp_at_zero Go.wp_at_succ
set_option linter.unusedVariables false
set_option linter.unusedSimpArgs false

def rE (x : List UInt8 × List UInt8) : List Value := [.string ⟨x.1.toArray⟩, .string ⟨x.2.toArray⟩]
abbrev Rs := Sl (flat rE) 2
abbrev OwnR := Own rE 82 2
theorem infoR : (Try.prog.info? 82).map (fun i => (i.zero, i.size, i.bytes)) = some (some (.agg #[.string .empty, .string .empty]), 2, 32) := by kernel_rfl
theorem OwnR.rs {lo : Nat} {w : World} {v : Value} {l : PL} (h : OwnR lo w v l) : Rs lo w.heap.size w v l := Sl.ofOwn (fun _ => rfl) h
theorem flatMap_rE (l : PL) (i : Nat) (hl : i < l.length) : (l.flatMap rE)[i * 2]? = some (.string ⟨l[i].1.toArray⟩) ∧ (l.flatMap rE)[i * 2 + 1]? = some (.string ⟨l[i].2.toArray⟩) := by
  induction l generalizing i with
  | nil => exact absurd hl (Nat.not_lt_zero _)
  | cons x r ih =>
    cases i with
    | zero => simp [rE]
    | succ j =>
      have := ih j (by simp at hl; omega)
      simp only [List.flatMap_cons, rE, List.getElem_cons_succ]
      rw [show (j + 1) * 2 = j * 2 + 1 + 1 by omega, show j * 2 + 1 + 1 + 1 = (j * 2 + 1) + 1 + 1 by omega]
      simpa using this
/-- Appending pairs that lie somewhere. -/
theorem appRs {w : World} {lo : Nat} {v : Value} {xs ys : PL} (h : OwnR lo w v xs) {x : Value} (hs : Src Try.prog 2 54 x ys.length (ys.flatMap rE) w) (hb : xs.length + ys.length ≤ 1000000) (hlo : lo ≤ w.heap.size) :
    ∃ v' w', (Builtin.append_ #[54, 54] 54 #[v, x]).run Try.prog w = .ok v' w' ∧ OwnR lo w' v' (xs ++ ys) ∧ Appended w v w' v' := by
  obtain ⟨i0, hi, hz0, hz1, hz2⟩ := info_parts infoR
  exact Own.app h _ _ _ i0 _ 32 Try.underlying54 hi hz0 hz1 hz2 rfl hs (by omega) (by decide) hlo
theorem flat_len (l : PL) : (l.flatMap rE).length = l.length * 2 := by
  induction l with
  | nil => rfl
  | cons x r ih => simp [rE, ih]; omega
/-- A pair more, laid into a new row. -/
theorem appR1 {w : World} {lo : Nat} {v : Value} {xs : PL} (h : OwnR lo w v xs) (a b : List UInt8) {n : Nat} (hn : n = w.heap.size) (hb : xs.length ≤ 100000) (hlo : lo ≤ w.heap.size) :
    ∃ v' w', (Builtin.append_ #[54, 54] 54 #[v, .slice (some ⟨n, 0, none⟩) 1 1]).run Try.prog (w.alloc (.cells #[.string ⟨a.toArray⟩, .string ⟨b.toArray⟩] 82)) = .ok v' w' ∧ OwnR lo w' v' (xs ++ [(a, b)]) ∧ Appended w v w' v' := by
  subst hn
  have hB := alloc_below w (.cells #[.string ⟨a.toArray⟩, .string ⟨b.toArray⟩] 82)
  have hc := CellsAt.newAt w [.string ⟨a.toArray⟩, .string ⟨b.toArray⟩] 82 rfl
  have hs : Src Try.prog 2 54 (.slice (some ⟨w.heap.size, 0, none⟩) 1 1) [(a, b)].length ([(a, b)].flatMap rE) (w.alloc (.cells #[.string ⟨a.toArray⟩, .string ⟨b.toArray⟩] 82)) :=
    Src.ofSlice _ Try.underlying54 _ _ _ _ (by simp [rE]) (fun j u hu => by rw [Addr.add_lit]; exact hc j u (by simpa [rE] using hu)) (fun u hu => by
      simp only [List.flatMap_cons, List.flatMap_nil, rE, List.append_nil, List.mem_cons, List.not_mem_nil, or_false] at hu
      rcases hu with rfl | rfl <;> rfl)
  obtain ⟨v', w', hr, ho, ha⟩ := appRs (Own.kept h hB) hs (by simp; omega) (Nat.le_trans hlo hB.size)
  exact ⟨v', w', hr, ho, (Appended.step v hB).trans ha⟩
/-- A pair of a list. -/
theorem Rs.at {lo hi n c : Nat} {w : World} {p : Option Addr} {l : PL} (h : Rs lo hi w (.slice p n c) l) (i : Nat) (hil : i < l.length) : ∃ b off, p = some ⟨b, off, none⟩ ∧ lo ≤ b ∧ b < hi ∧ w.cell? ⟨b, off + i * 2, none⟩ = some (.string ⟨l[i].1.toArray⟩) ∧ w.cell? ⟨b, off + i * 2 + 1, none⟩ = some (.string ⟨l[i].2.toArray⟩) := by
  obtain ⟨ao, cap, e, -, -, -, hc⟩ := Sl.form h
  injection e with e1 e2 e3
  subst e1
  obtain ⟨b, off, rfl, h1, h2, h3⟩ := hc i hil
  obtain ⟨cs, -, hcs, hf⟩ := h3 i hil
  cases hf
  obtain ⟨x0, x1⟩ := hcs.c2
  exact ⟨b, off, rfl, h1, h2, x0, x1⟩
theorem Rs.low {lo hi : Nat} {w w' : World} {v : Value} {l : PL} (h : Rs lo hi w v l) (hB : Below w.heap.size w w') (hh : hi ≤ w.heap.size) : Rs lo hi w' v l := Sl.below h (flat_loc _) hB hh
theorem lowL_take (key : List UInt8) (l : PL) (i : Nat) (hi : i < l.length) : lowL key (l.take (i + 1)) = lowL key (l.take i) ++ (if cmpB l[i].1 key < 0 then [l[i]] else []) := by
  rw [lowL, List.take_succ_eq_append_getElem hi, List.filter_append, ← lowL]
  congr 1
  by_cases h : cmpB l[i].1 key < 0 <;> simp [h]

set_option maxRecDepth 100000 in
set_option maxHeartbeats 4000000 in
theorem Rank_ref (lo hi : Nat) (l : PL) (sv : Value) (key : List UInt8) (w : World) (h : Rs lo hi w sv l) (hhi : hi ≤ w.heap.size) (hl : l.length ≤ 100000) (R : Ending → World → Prop)
    (hR : ∀ w', Below w.heap.size w w' → R (.returned (.int .i64 (lowL key l).length)) w') : Calls Try.prog 38 #[.agg #[sv], .string ⟨key.toArray⟩] w R := by
  have HR := Lib.hid hR
  obtain ⟨ao, cap, rfl, -, -, -, -⟩ := Sl.form h
  have hB := alloc_below w (.cells #[.slice ao l.length cap] 56)
  have hc := (CellsAt.new w [.slice ao l.length cap] 56).c1
  have H := Lib.hid (h.low hB hhi)
  have hr := HR.out _ hB
  clear hR h hB
  go_enter Try.func38, Try.ntmps38
  go_wp2_with fail
  generalize w.alloc (.cells #[.slice ao l.length cap] 56) = w1 at *
  go_loopw [5, 6] (fun t5 t6 wr => ∃ i : Nat, i ≤ l.length ∧ t6 = .int .i64 (i : Int) ∧ t5 = .int .i64 (lowL key (l.take i)).length ∧ wr = w1) (fun _ t6 _ => l.length - (intOf t6).toNat)
  case atStart => exact ⟨0, Nat.zero_le _, rfl, rfl, rfl⟩
  case round =>
    obtain ⟨i, hi1, rfl, rfl, rfl⟩ := hrel
    by_cases hil : i < l.length
    · obtain ⟨b, off, rfl, h1, h2, x0, x1⟩ := H.out.at i hil
      have hs := lowL_take key l i hil
      have hlen : (lowL key (l.take i)).length ≤ i := by
        have := List.length_filter_le (fun x => decide (cmpB x.1 key < 0)) (l.take i)
        rw [List.length_take] at this
        unfold lowL
        omega
      have hcm := less_cmp l[i].1 key
      have i0 : (0 : Int) ≤ (i : Int) := by omega
      have il : (i : Int) < (l.length : Int) := by omega
      have wi : IntKind.i64.wrap ((i : Int) + 1) = ((i + 1 : Nat) : Int) := by rw [show (i : Int) + 1 = ((i + 1 : Nat) : Int) by omega]; exact wrap_ok (by omega) (by omega)
      have wn : IntKind.i64.wrap (((lowL key (l.take i)).length : Int) + 1) = (((lowL key (l.take i)).length + 1 : Nat) : Int) := by rw [show ((lowL key (l.take i)).length : Int) + 1 = (((lowL key (l.take i)).length + 1 : Nat) : Int) by omega]; exact wrap_ok (by omega) (by omega)
      by_cases hc2 : cmpB l[i].1 key < 0
      · rw [decide_eq_true hc2] at hcm
        rw [if_pos hc2] at hs
        have Hs := Lib.hid hs
        generalize lowL key (l.take i) = acc at *
        clear hs hc2 hlen
        go_wp2_with fail
        go_roundw
        case rel => exact ⟨i + 1, by omega, rfl, by rw [Hs.out, List.length_append]; rfl, trivial⟩
        case measure => simp [intOf]; omega
      · rw [decide_eq_false hc2] at hcm
        rw [if_neg hc2, List.append_nil] at hs
        have Hs := Lib.hid hs
        generalize lowL key (l.take i) = acc at *
        clear hs hc2 hlen wn
        go_wp2_with fail
        go_roundw
        case rel => exact ⟨i + 1, by omega, rfl, by rw [Hs.out], trivial⟩
        case measure => simp [intOf]; omega
    · have he : l.take i = l := List.take_of_length_le (by omega)
      rw [he]
      go_wp2_with fail
      first | exact hr | exact fin hr rfl

theorem at_low (key : List UInt8) (l : PL) (hr : Rises l) (v : List UInt8) (h : getL key l = some v) : l[(lowL key l).length]? = some (key, v) := by
  have e := low_high key l hr
  have h1 : getL key l = getL key (highL key l) := by
    conv => lhs; rw [← e]
    exact getL_append key _ _ (fun x hx hc => by
      have h2 := of_decide_eq_true (List.mem_filter.1 hx).2
      have := cmpB_flip x.1 key
      omega)
  rw [h1] at h
  have hrh : Rises (highL key l) := List.Pairwise.filter _ hr
  have h3 : l[(lowL key l).length]? = (highL key l)[0]? := by
    conv => lhs; arg 1; rw [← e]
    rw [List.getElem?_append_right (Nat.le_refl _), Nat.sub_self]
  rw [h3]
  cases hh : highL key l with
  | nil => rw [hh] at h; cases h
  | cons x r =>
    obtain ⟨a, b⟩ := x
    rw [hh] at h hrh
    have hm : (a, b) ∈ highL key l := by rw [hh]; exact List.mem_cons_self
    have h4 := of_decide_eq_true (List.mem_filter.1 hm).2
    simp only [getL] at h
    split at h
    · rename_i h5
      injection h with h
      rw [cmpB_eq key a h5, h]
      rfl
    · rename_i h5
      have h6 := cmpB_flip a key
      have h7 : cmpB key a < 0 := by simp only at h4; omega
      exfalso
      have h8 := getL_none key r (fun x hx => by
        have h9 : cmpB a x.1 < 0 := (List.pairwise_cons.1 hrh).1 x hx
        have := cmpB_trans key a x.1 h7 h9
        omega)
      rw [h8] at h
      cases h
theorem no_low (key : List UInt8) (l : PL) (h : getL key l = none) (i : Nat) (hi : i < l.length) : ¬ l[i].1 = key := fun e => by
  have := getL_no key l h l[i] (List.getElem_mem hi)
  rw [e, cmpB_self] at this
  exact this rfl

set_option maxRecDepth 100000 in
set_option maxHeartbeats 4000000 in
theorem Has_ref (lo hi : Nat) (l : PL) (sv : Value) (key : List UInt8) (w : World) (h : Rs lo hi w sv l) (hhi : hi ≤ w.heap.size) (hl : l.length ≤ 100000) (hri : Rises l) (R : Ending → World → Prop)
    (hR : ∀ w', Below w.heap.size w w' → R (.returned (.bool (getL key l).isSome)) w') : Calls Try.prog 37 #[.agg #[sv], .string ⟨key.toArray⟩] w R := by
  have HR := Lib.hid hR
  obtain ⟨ao, cap, rfl, -, -, -, -⟩ := Sl.form h
  have hB := alloc_below w (.cells #[.slice ao l.length cap] 56)
  have hb := Blk.new w [.slice ao l.length cap] 56 rfl
  have hc := hb.cells.c1
  have H := Lib.hid (h.low hB hhi)
  have HB := Lib.hid hB
  have hs := hB.size
  clear hR h hB
  go_enter Try.func37, Try.ntmps37
  go_wp2_with fail
  have hhi1 := Nat.le_trans hhi hs
  have hlt := hb.lt
  generalize w.alloc (.cells #[.slice ao l.length cap] 56) = w1 at *
  refine Rank_ref lo hi l _ key w1 H.out hhi1 hl _ (fun w2 hB2 => ?_)
  have H2 := Lib.hid (H.out.low hB2 hhi1)
  have hc2 := (World.cell?_of_block (hB2.block w.heap.size hlt)).trans hc
  have hr := HR.out w2 (HB.out.trans (hB2.mono hs))
  clear hB2 hc
  have hn : (lowL key l).length ≤ l.length := List.length_filter_le _ _
  obtain ⟨n, en⟩ : ∃ n, n = (lowL key l).length := ⟨_, rfl⟩
  have He := Lib.hid en
  rw [← en] at hn ⊢
  clear en hb
  have n0 : (0 : Int) ≤ (n : Int) := by omega
  cases hg : getL key l with
  | some v =>
    rw [hg] at hr
    have h1 := at_low key l hri v hg
    rw [← He.out] at h1
    have hnl : n < l.length := (List.getElem?_eq_some_iff.1 h1).1
    have nl : (n : Int) < (l.length : Int) := by omega
    have h2 : l[n] = (key, v) := (List.getElem?_eq_some_iff.1 h1).2
    obtain ⟨b, off, rfl, k1, k2, x0, x1⟩ := H2.out.at n hnl
    rw [h2] at x0 x1
    clear hg h1 h2
    go_wp2_with fail
    first | exact hr | exact fin hr rfl
  | none =>
    rw [hg] at hr
    by_cases hnl : n < l.length
    · have nl : (n : Int) < (l.length : Int) := by omega
      have h2 := no_low key l hg n hnl
      obtain ⟨b, off, rfl, k1, k2, x0, x1⟩ := H2.out.at n hnl
      generalize l[n].1 = a at *
      have h3 : (a == key) = false := by simpa using h2
      clear hg h2
      go_wp2_with fail
      first | exact hr | exact fin hr rfl
    · clear hg
      go_wp2_with fail
      first | exact hr | exact fin hr rfl

theorem runTree {w : World} {b : Nat} {v : Value} (h : CellsAt w b 0 [v]) : (loadVar 56 ⟨b, 0, none⟩).run Try.prog w = .ok (.agg #[v]) w := h.runVar (fun _ => by kernel_rfl) (fun _ => by kernel_rfl)
theorem runRPair {w : World} {b : Nat} {v u : Value} (h : CellsAt w b 0 [v, u]) : (loadVar 82 ⟨b, 0, none⟩).run Try.prog w = .ok (.agg #[v, u]) w := h.runVar (fun _ => by kernel_rfl) (fun _ => by kernel_rfl)
set_option maxRecDepth 100000 in
set_option maxHeartbeats 4000000 in
theorem At_ref (lo hi : Nat) (l : PL) (sv : Value) (i : Int) (w : World) (h : Rs lo hi w sv l) (hhi : hi ≤ w.heap.size) (hl : l.length ≤ 100000) (R : Ending → World → Prop)
    (hno : (i < 0 ∨ (l.length : Int) ≤ i) → ∀ w', Below w.heap.size w w' → R (.returned (.tuple #[.agg #[.string ⟨#[]⟩, .string ⟨#[]⟩], .bool false])) w')
    (hyes : ∀ n : Nat, i = n → ∀ hn : n < l.length, ∀ w', Below w.heap.size w w' → R (.returned (.tuple #[.agg #[.string ⟨l[n].1.toArray⟩, .string ⟨l[n].2.toArray⟩], .bool true])) w') :
    Calls Try.prog 40 #[.agg #[sv], .int .i64 i] w R := by
  obtain ⟨ao, cap, rfl, -, -, -, -⟩ := Sl.form h
  have hB (x y : List UInt8) : Below w.heap.size w ((w.alloc (.cells #[.slice ao l.length cap] 56)).alloc (.cells #[.string ⟨x.toArray⟩, .string ⟨y.toArray⟩] 82)) := ((Below.refl _ _).alloc (Nat.le_refl _) _).alloc (by simp) _
  have hb2 (x y : List UInt8) := runRPair (Blk.new (n := w.heap.size + 1) (w.alloc (.cells #[.slice ao l.length cap] 56)) [.string ⟨x.toArray⟩, .string ⟨y.toArray⟩] 82 (by simp)).cells
  have H := Lib.hid (h.low (hB [] []) hhi)
  by_cases hin : i < 0 ∨ (l.length : Int) ≤ i
  · have hr := hno hin _ (hB [] [])
    have hres := hb2 [] []
    clear hno hyes h hB hb2
    by_cases hi0 : i < 0
    · clear hin
      go_enter Try.func40, Try.ntmps40
      go_wp2_with fail
      exact ret_cell_tmp rfl rfl hres rfl rfl hr
    · have hil : (l.length : Int) ≤ i := by omega
      clear hin
      go_enter Try.func40, Try.ntmps40
      go_wp2_with fail
      exact ret_cell_tmp rfl rfl hres rfl rfl hr
  · obtain ⟨n, rfl⟩ := Int.eq_ofNat_of_zero_le (show 0 ≤ i by omega)
    have hnl : n < l.length := by omega
    obtain ⟨b, off, rfl, k1, k2, x0, x1⟩ := H.out.at n hnl
    have hr := hyes n rfl hnl _ (hB l[n].1 l[n].2)
    have hres := hb2 l[n].1 l[n].2
    obtain ⟨b', off', e, k3, k4, z0, z1⟩ := h.at n hnl
    injection e with e
    injection e with e1 e2
    subst e1 e2
    have hbw : b < w.heap.size := by omega
    have hi0 : ¬ ((n : Int) < 0) := by omega
    have n0 : (0 : Int) ≤ (n : Int) := by omega
    have nl : (n : Int) < (l.length : Int) := by omega
    have nl2 : ¬ l.length ≤ n := by omega
    replace x0 := z0
    have y0 := (World.cell?_of_block (Below.block ((Below.refl w.heap.size w).alloc (Nat.le_refl _) (.cells #[.slice (some ⟨b, off, none⟩) l.length cap] 56)) b hbw)).trans z0
    clear hno hyes h hB hb2 hin x0 x1
    go_enter Try.func40, Try.ntmps40
    go_wp2_with fail
    exact ret_cell_tmp rfl rfl hres rfl rfl hr
end Go.Proofs.Ytmlcnfomiemdpaa
