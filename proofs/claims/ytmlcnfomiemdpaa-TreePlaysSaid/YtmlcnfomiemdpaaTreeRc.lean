/- The document's tree: Cut, Range. (Printed by treerc.py.) -/
import Derived.Test.YtmlcnfomiemdpaaTreeRf
namespace Go.Proofs.Ytmlcnfomiemdpaa
open Go.RowKit
attribute [local go_sem ↓] Go.wp_at_zero Go.wp_at_succ
set_option linter.unusedVariables false
set_option linter.unusedSimpArgs false

theorem Own.same' {α : Type} {enc : α → List Value} {e : TypeId} {size lo lo' : Nat} {w w' : World} {v : Value} {xs : List α} (h : Own enc e size lo w v xs) (hl : lo' ≤ lo) (hb : ∀ g, v.ownBlock = some g → w'.heap[g]? = w.heap[g]?) : Own enc e size lo' w' v xs :=
  let h := Own.same h hb
  ⟨h.1, h.2.imp id fun ⟨g, cap, cur, h1, h2, h3⟩ => ⟨g, cap, cur, h1, Nat.le_trans hl h2, h3⟩⟩
theorem OwnR.form {lo : Nat} {w : World} {v : Value} {l : PL} (h : OwnR lo w v l) : ∃ p c, v = .slice p l.length c := Own.slice h
theorem delL_take (key : List UInt8) (l : PL) (i : Nat) (hi : i < l.length) : delL key (l.take (i + 1)) = delL key (l.take i) ++ (if l[i].1 = key then [] else [l[i]]) := by
  rw [delL, List.take_succ_eq_append_getElem hi, List.filter_append, ← delL]
  congr 1
  by_cases h : l[i].1 = key
  · simp [h, cmpB_self]
  · have : cmpB key l[i].1 ≠ 0 := fun e => h (cmpB_eq _ _ e).symm
    simp [h, this]
set_option maxRecDepth 100000 in
set_option maxHeartbeats 4000000 in
theorem Cut_ref (lo hi : Nat) (l : PL) (sv : Value) (key : List UInt8) (w : World) (h : Rs lo hi w sv l) (hhi : hi ≤ w.heap.size) (hl : l.length ≤ 10000) (R : Ending → World → Prop)
    (hR : ∀ w' v', Below w.heap.size w w' → OwnR w.heap.size w' v' (delL key l) → R (.returned (.agg #[v'])) w') : Calls Try.prog 24 #[.agg #[sv], .string ⟨key.toArray⟩] w R := by
  have HR := Lib.hid hR
  obtain ⟨ao, cap, rfl, -, -, -, -⟩ := Sl.form h
  have hB : Below w.heap.size w ((w.alloc (.cells #[.slice ao l.length cap] 56)).alloc (.cells #[.slice none 0 0] 56)) := ((Below.refl _ _).alloc (Nat.le_refl _) _).alloc (by simp) _
  have hb := (Blk.new w [.slice ao l.length cap] 56 rfl).alloc (.cells #[.slice none 0 0] 56)
  have hb2 := Blk.new (n := w.heap.size + 1) (w.alloc (.cells #[.slice ao l.length cap] 56)) [.slice none 0 0] 56 (by simp)
  have H := Lib.hid (h.low hB hhi)
  have HB0 := Lib.hid hB
  have hs := hB.size
  have hs1 : ((w.alloc (.cells #[.slice ao l.length cap] 56)).alloc (.cells #[.slice none 0 0] 56)).heap.size = w.heap.size + 2 := by simp
  clear hR h hB
  go_enter Try.func24, Try.ntmps24
  go_wp2_with fail
  generalize (w.alloc (.cells #[.slice ao l.length cap] 56)).alloc (.cells #[.slice none 0 0] 56) = w1 at *
  have Hb := Lib.hid hb
  have Hb2 := Lib.hid hb2
  have Hs1 := Lib.hid hs1
  clear hb hb2 hs1
  go_loopw [5, 6] (fun t5 t6 wr => ∃ i : Nat, i ≤ l.length ∧ t6 = .int .i64 (i : Int) ∧ Below w1.heap.size w1 wr ∧ OwnR w1.heap.size wr t5 (delL key (l.take i))) (fun _ t6 _ => l.length - (intOf t6).toNat)
  case atStart => exact ⟨0, Nat.zero_le _, rfl, Below.refl _ _, Own.nil _ _ _ _ _⟩
  case round =>
    obtain ⟨i, hi1, rfl, hB, ho⟩ := hrel
    have HB := Lib.hid hB
    have HO := Lib.hid ho
    obtain ⟨p5, c5, rfl⟩ := OwnR.form ho
    have hbr := Hb.out.below hB Hb.out.lt
    have cb := hbr.cells.c1
    have hwl := hB.size
    clear ho
    have Hacc : Hid ((delL key (l.take i)).length ≤ 10000) := Lib.hid (by
      have := List.length_filter_le (fun x => decide (cmpB key x.1 ≠ 0)) (l.take i)
      rw [List.length_take] at this
      unfold delL
      omega)
    by_cases hil : i < l.length
    · obtain ⟨b, off, rfl, k1, k2, x0, x1⟩ := (H.out.low hB (Nat.le_trans hhi hs)).at i hil
      have hs := delL_take key l i hil
      have i0 : (0 : Int) ≤ (i : Int) := by omega
      have il : (i : Int) < (l.length : Int) := by omega
      have wi : IntKind.i64.wrap ((i : Int) + 1) = ((i + 1 : Nat) : Int) := by rw [show (i : Int) + 1 = ((i + 1 : Nat) : Int) by omega]; exact wrap_ok (by omega) (by omega)
      by_cases he : l[i].1 = key
      · rw [if_pos he, List.append_nil] at hs
        have HO2 : Hid (OwnR w1.heap.size wr (.slice p5 (delL key (l.take i)).length c5) (delL key (l.take (i + 1)))) := Lib.hid (by rw [hs]; exact HO.out)
        have h3 : (l[i].1 == key) = true := by rw [he]; exact beq_self_eq_true _
        clear hB he hs
        go_wp2_with fail
        go_roundw
        case rel => exact ⟨i + 1, by omega, by go_num, HB.out, HO2.out⟩
        case measure => first | (simp [intOf]; done) | (simp [intOf]; omega)
      · rw [if_neg he] at hs
        have Hs := Lib.hid hs
        have h3 : (l[i].1 == key) = false := by simpa using he
        clear hB he hs
        obtain ⟨v', w', hrun, ho', ha'⟩ := appR1 HO.out l[i].1 l[i].2 (n := wr.heap.size) rfl (by have := Hacc.out; omega) hwl
        have hbl := ha'.below hwl (fun k hk => (HO.out.lt k hk).1)
        rw [show delL key (l.take i) ++ [(l[i].1, l[i].2)] = delL key (l.take (i + 1)) from Hs.out.symm] at ho'
        have HO2 := Lib.hid ho'
        have HB2 := Lib.hid (HB.out.trans hbl)
        clear ha' hbl ho'
        go_wp2_with (at_builtin; refine AtApp.of ?_)
        refine AtApp.go hrun rfl rfl rfl rfl ?_
        clear hrun
        go_wp2_with fail
        go_roundw
        case rel => exact ⟨i + 1, by omega, by go_num, HB2.out, HO2.out⟩
        case measure => first | (simp [intOf]; done) | (simp [intOf]; omega)
    · have he : l.take i = l := List.take_of_length_le (by omega)
      rw [he] at HO ⊢
      have hb2r := Hb2.out.below hB Hb2.out.lt
      have f0 := hb2r.free 0
      have y0 := hb2r.cells.c1
      have hres := runTree (hb2r.set 0 (.slice p5 (delL key l).length c5)).cells
      have hlt := Own.lt HO.out
      have hr := HR.out _ _ ((HB0.out.trans (hB.mono HB0.out.size)).setCell (p := ⟨w.heap.size + 1, 0, none⟩) (Nat.le_succ _) (.slice p5 (delL key l).length c5))
        (Own.same' HO.out (by have := Hs1.out; omega) (fun g hg => Below.heap_setCell _ _ _ _ (by have := (hlt g hg).1; have := Hs1.out; simp only; omega)))
      clear hB he
      go_wp2_with fail
      exact ret_cell rfl rfl hres rfl hr
theorem takeWhile_all {α : Type} (p : α → Bool) : ∀ (l : List α), (∀ x ∈ l, p x = true) → l.takeWhile p = l
  | [], _ => rfl
  | a :: r, h => by rw [List.takeWhile_cons, if_pos (h a List.mem_cons_self), takeWhile_all p r (fun x hx => h x (List.mem_cons_of_mem _ hx))]
/-- Pairs from one key on, ahead of another one. -/
def rgP (from_ to : List UInt8) (x : List UInt8 × List UInt8) : Bool := decide (¬ cmpB x.1 from_ < 0 ∧ (to = [] ∨ cmpB x.1 to < 0))
def rngF (from_ to : List UInt8) (most : Int) (l : PL) : PL := (l.filter (rgP from_ to)).take most.toNat
theorem rng_take (from_ to : List UInt8) (most : Int) (l : PL) (i : Nat) (hi : i < l.length) :
    rngF from_ to most (l.take (i + 1)) = rngF from_ to most (l.take i) ++ (if ((rngF from_ to most (l.take i)).length : Int) < most ∧ rgP from_ to l[i] = true then [l[i]] else []) := by
  unfold rngF
  rw [List.take_succ_eq_append_getElem hi, List.filter_append]
  generalize (l.take i).filter (rgP from_ to) = bs
  by_cases hq : rgP from_ to l[i] = true
  · have e : [l[i]].filter (rgP from_ to) = [l[i]] := by simp [hq]
    rw [e, List.length_take]
    by_cases hm : bs.length < most.toNat
    · rw [if_pos ⟨by omega, hq⟩, List.take_of_length_le (by simp; omega), List.take_of_length_le (by omega)]
    · rw [if_neg (fun h => by have := h.1; omega), List.append_nil, List.take_append_of_le_length (by omega)]
  · have e : [l[i]].filter (rgP from_ to) = [] := by simp [hq]
    rw [e, List.append_nil, if_neg (fun h => hq h.2), List.append_nil]
theorem rng_eq (from_ to : List UInt8) (most : Int) (l : PL) (hr : Rises l) : rngF from_ to most l = rangeL to most (highL from_ l) := by
  unfold rngF rangeL
  congr 1
  have h1 : l.filter (rgP from_ to) = (highL from_ l).filter (fun x => decide (to = [] ∨ cmpB x.1 to < 0)) := by
    unfold highL
    rw [List.filter_filter]
    congr 1
    funext x
    unfold rgP
    by_cases c1 : cmpB x.1 from_ < 0 <;> by_cases c2 : (to = [] ∨ cmpB x.1 to < 0) <;> simp [c1, c2]
  rw [h1]
  have hh : Rises (highL from_ l) := List.Pairwise.filter _ hr
  by_cases ht : to = []
  · subst ht
    rw [List.filter_eq_self.2 (fun x _ => by simp)]
    exact (takeWhile_all _ _ (fun x _ => by simp)).symm
  · have e : (fun x : List UInt8 × List UInt8 => decide (to = [] ∨ cmpB x.1 to < 0)) = fun x => decide (cmpB x.1 to < 0) := by funext x; simp [ht]
    rw [e, take_low to _ hh]
    rfl
set_option maxRecDepth 100000 in
set_option maxHeartbeats 4000000 in
theorem Range_ref (lo hi : Nat) (l : PL) (sv : Value) (from_ to : List UInt8) (most : Int) (w : World) (h : Rs lo hi w sv l) (hhi : hi ≤ w.heap.size) (hl : l.length ≤ 10000) (R : Ending → World → Prop)
    (hR : ∀ w' v', Below w.heap.size w w' → OwnR w.heap.size w' v' (rngF from_ to most l) → R (.returned v') w') : Calls Try.prog 42 #[.agg #[sv], .string ⟨from_.toArray⟩, .string ⟨to.toArray⟩, .int .i64 most] w R := by
  have HR := Lib.hid hR
  obtain ⟨ao, cap, rfl, -, -, -, -⟩ := Sl.form h
  have hB := alloc_below w (.cells #[.slice ao l.length cap] 56)
  have hb := Blk.new w [.slice ao l.length cap] 56 rfl
  have H := Lib.hid (h.low hB hhi)
  have HB0 := Lib.hid hB
  have hs := hB.size
  clear hR h hB
  go_enter Try.func42, Try.ntmps42
  go_wp2_with fail
  generalize w.alloc (.cells #[.slice ao l.length cap] 56) = w1 at *
  have Hb := Lib.hid hb
  clear hb
  go_loopw [9, 10] (fun t9 t10 wr => ∃ i : Nat, i ≤ l.length ∧ t10 = .int .i64 (i : Int) ∧ Below w1.heap.size w1 wr ∧ OwnR w1.heap.size wr t9 (rngF from_ to most (l.take i))) (fun _ t10 _ => l.length - (intOf t10).toNat)
  case atStart => exact ⟨0, Nat.zero_le _, rfl, Below.refl _ _, by simp only [rngF, List.take_zero, List.filter_nil, List.take_nil]; exact Own.nil _ _ _ _ _⟩
  case round =>
    obtain ⟨i, hi1, rfl, hB, ho⟩ := hrel
    have HB := Lib.hid hB
    have HO := Lib.hid ho
    obtain ⟨p5, c5, rfl⟩ := OwnR.form ho
    have hbr := Hb.out.below hB Hb.out.lt
    have cb := hbr.cells.c1
    have hwl := hB.size
    clear ho
    have Hacc : Hid ((rngF from_ to most (l.take i)).length ≤ 10000) := Lib.hid (by
      have := List.length_filter_le (rgP from_ to) (l.take i)
      rw [List.length_take] at this
      unfold rngF
      rw [List.length_take]
      omega)
    by_cases hil : i < l.length
    · obtain ⟨b, off, rfl, k1, k2, x0, x1⟩ := (H.out.low hB (Nat.le_trans hhi hs)).at i hil
      have hs := rng_take from_ to most l i hil
      have hq := less_cmp l[i].1 from_
      have hq2 := less_cmp l[i].1 to
      have i0 : (0 : Int) ≤ (i : Int) := by omega
      have il : (i : Int) < (l.length : Int) := by omega
      have wi : IntKind.i64.wrap ((i : Int) + 1) = ((i + 1 : Nat) : Int) := by rw [show (i : Int) + 1 = ((i + 1 : Nat) : Int) by omega]; exact wrap_ok (by omega) (by omega)
      obtain ⟨acc, eacc⟩ : ∃ acc, acc = rngF from_ to most (l.take i) := ⟨_, rfl⟩
      rw [← eacc] at hs HO Hacc ⊢
      clear eacc
      by_cases c1 : (acc.length : Int) < most
      · by_cases c2 : cmpB l[i].1 from_ < 0
        · rw [if_neg (fun h => by have := of_decide_eq_true h.2; exact this.1 c2), List.append_nil] at hs
          rw [decide_eq_true c2] at hq
          have HO2 : Hid (OwnR w1.heap.size wr (.slice p5 acc.length c5) (rngF from_ to most (l.take (i + 1)))) := Lib.hid (by rw [hs]; exact HO.out)
          clear hB hs hq2 c2
          go_wp2_with fail
          go_roundw
          case rel => exact ⟨i + 1, by omega, by go_num, HB.out, HO2.out⟩
          case measure => first | (simp [intOf]; done) | (simp [intOf]; omega)
        · rw [decide_eq_false c2] at hq
          by_cases c3 : to = []
          · rw [if_pos ⟨c1, decide_eq_true ⟨c2, .inl c3⟩⟩] at hs
            have Hs := Lib.hid hs
            clear hB hs hq2 c2
            subst c3
            obtain ⟨v', w', hrun, ho', ha'⟩ := appR1 HO.out l[i].1 l[i].2 (n := wr.heap.size) rfl (by have := Hacc.out; omega) hwl
            have hbl := ha'.below hwl (fun k hk => (HO.out.lt k hk).1)
            rw [show acc ++ [(l[i].1, l[i].2)] = rngF from_ [] most (l.take (i + 1)) from Hs.out.symm] at ho'
            have HO2 := Lib.hid ho'
            have HB2 := Lib.hid (HB.out.trans hbl)
            clear ha' hbl ho'
            go_wp2_with (at_builtin; refine AtApp.of ?_)
            refine AtApp.go hrun rfl rfl rfl rfl ?_
            clear hrun
            go_wp2_with fail
            go_roundw
            case rel => exact ⟨i + 1, by omega, by go_num, HB2.out, HO2.out⟩
            case measure => first | (simp [intOf]; done) | (simp [intOf]; omega)
          · have h3 : (to == []) = false := by simpa using c3
            by_cases c4 : cmpB l[i].1 to < 0
            · rw [if_pos ⟨c1, decide_eq_true ⟨c2, .inr c4⟩⟩] at hs
              have Hs := Lib.hid hs
              rw [decide_eq_true c4] at hq2
              clear hB hs c2 c4
              obtain ⟨v', w', hrun, ho', ha'⟩ := appR1 HO.out l[i].1 l[i].2 (n := wr.heap.size) rfl (by have := Hacc.out; omega) hwl
              have hbl := ha'.below hwl (fun k hk => (HO.out.lt k hk).1)
              rw [show acc ++ [(l[i].1, l[i].2)] = rngF from_ to most (l.take (i + 1)) from Hs.out.symm] at ho'
              have HO2 := Lib.hid ho'
              have HB2 := Lib.hid (HB.out.trans hbl)
              clear ha' hbl ho'
              go_wp2_with (at_builtin; refine AtApp.of ?_)
              refine AtApp.go hrun rfl rfl rfl rfl ?_
              clear hrun
              go_wp2_with fail
              go_roundw
              case rel => exact ⟨i + 1, by omega, by go_num, HB2.out, HO2.out⟩
              case measure => first | (simp [intOf]; done) | (simp [intOf]; omega)
            · rw [if_neg (fun h => by have := of_decide_eq_true h.2; rcases this.2 with e | e; exact c3 e; exact c4 e), List.append_nil] at hs
              rw [decide_eq_false c4] at hq2
              have HO2 : Hid (OwnR w1.heap.size wr (.slice p5 acc.length c5) (rngF from_ to most (l.take (i + 1)))) := Lib.hid (by rw [hs]; exact HO.out)
              clear hB hs c2 c4
              go_wp2_with fail
              go_roundw
              case rel => exact ⟨i + 1, by omega, by go_num, HB.out, HO2.out⟩
              case measure => first | (simp [intOf]; done) | (simp [intOf]; omega)
      · rw [if_neg (fun h => c1 h.1), List.append_nil] at hs
        have HO2 : Hid (OwnR w1.heap.size wr (.slice p5 acc.length c5) (rngF from_ to most (l.take (i + 1)))) := Lib.hid (by rw [hs]; exact HO.out)
        clear hB hs hq hq2
        go_wp2_with fail
        go_roundw
        case rel => exact ⟨i + 1, by omega, by go_num, HB.out, HO2.out⟩
        case measure => first | (simp [intOf]; done) | (simp [intOf]; omega)
    · have he : l.take i = l := List.take_of_length_le (by omega)
      rw [he] at HO ⊢
      have hr := HR.out _ _ (HB0.out.trans (hB.mono HB0.out.size)) (Own.same' HO.out hs (fun g hg => rfl))
      clear hB he
      go_wp2_with fail
      first | exact hr | exact fin hr rfl
end Go.Proofs.Ytmlcnfomiemdpaa
