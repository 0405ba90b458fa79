/- The document's rows: put. -/
import Derived.Test.YtpncblagjkbemaaRowH
namespace Go.Proofs.Ytpncblagjkbemaa
open Go.RowKit
set_option linter.unusedVariables false
set_option linter.unusedSimpArgs false

theorem insR_at {α : Type} {c : α → α → Int} (h : Cmp c) (x : α) : ∀ (l : List α) (a : Nat), a ≤ l.length → (∀ j (hj : j < l.length), a ≤ j → c x l[j] < 0) → (∀ j (hj : j < l.length), j < a → c l[j] x < 0) → insR c x l = (l.take a ++ [x]) ++ l.drop a
  | [], a, h1, _, _ => by
    obtain rfl : a = 0 := by simpa using h1
    rfl
  | y :: r, 0, _, h2, _ => by
    have := h2 0 (by simp) (Nat.le_refl _)
    simp only [List.getElem_cons_zero] at this
    rw [insR, if_pos this]
    rfl
  | y :: r, a + 1, h1, h2, h3 => by
    have h4 := h3 0 (by simp) (by omega)
    simp only [List.getElem_cons_zero] at h4
    have h5 := h.anti y x
    rw [insR, if_neg (by omega), if_neg (by omega), insR_at h x r a (by simpa using h1) (fun j hj hja => by
      have := h2 (j + 1) (by simp; omega) (by omega)
      simpa using this) (fun j hj hja => by
      have := h3 (j + 1) (by simp; omega) (by omega)
      simpa using this)]
    simp
theorem insR_hit {α : Type} {c : α → α → Int} (h : Cmp c) (x : α) {l : List α} (hl : Up c l) {a : Nat} (ha : a < l.length) (h0 : c x l[a] = 0) : insR c x l = l := by
  have e := (h.zero _ _).1 h0
  refine up_one h (insR_up h x l hl) hl (fun z => ?_)
  rw [insR_mem h]
  constructor
  · rintro (rfl | hz)
    · rw [e]; exact List.getElem_mem ha
    · exact hz
  · exact fun hz => .inr hz
theorem up_lt {α : Type} {c : α → α → Int} {l : List α} (hl : Up c l) {i j : Nat} (hij : i < j) (hj : j < l.length) : c (l[i]'(by omega)) l[j] < 0 := List.pairwise_iff_getElem.1 hl i j (by omega) hj hij
/-- One row more. -/
theorem LR.snoc {lo rl a b : Nat} {w : World} {v : Value} {xs : List (List V)} (h : LR lo rl w v xs) (hra : rl ≤ a) (pa : Option Addr) (pc : Nat) (x : List V) (hx : Row1 a b w (.slice pa x.length pc) x) (hbw : b ≤ w.heap.size) (hk : ∀ k, v.ownBlock = some k → k < a ∨ b ≤ k) {n : Nat} (hn : n = w.heap.size) (hb : xs.length ≤ 4000000000000) (hlo : lo ≤ w.heap.size) :
    ∃ v' w', (Builtin.append_ #[32, 32] 32 #[v, .slice (some ⟨n, 0, none⟩) 1 1]).run Try.prog (w.alloc (.cells #[.slice pa x.length pc] 42)) = .ok v' w' ∧ LR lo rl w' v' (xs ++ [x]) ∧ Appended w v w' v' := by
  subst hn
  obtain ⟨hs, hl, ho, hr⟩ := h
  have hB := alloc_below w (.cells (HD.enc ⟨pa, x.length, pc⟩).toArray 42)
  obtain ⟨i0, hi, hz0, hz1, hz2⟩ := info_parts infoHD
  have hc := CellsAt.newAt w (HD.enc ⟨pa, x.length, pc⟩) 42 rfl
  have hsr : Src Try.prog 1 32 (.slice (some ⟨w.heap.size, 0, none⟩) 1 1) [(⟨pa, x.length, pc⟩ : HD)].length ([(⟨pa, x.length, pc⟩ : HD)].flatMap HD.enc) (w.alloc (.cells (HD.enc ⟨pa, x.length, pc⟩).toArray 42)) :=
    Src.ofSlice _ Try.underlying32 _ _ _ _ (by simp [HD.enc]) (fun j u hu => by rw [Addr.add_lit]; exact hc j u (by simpa using hu)) (fun u hu => by
      rw [List.flatMap_cons, List.flatMap_nil, List.append_nil] at hu
      exact HD.one _ u hu)
  obtain ⟨v', w', hrun, ho', hap⟩ := (Own.kept ho hB).app _ _ _ i0 _ 24 Try.underlying32 hi hz0 hz1 hz2 rfl hsr (by simp only [List.length_cons, List.length_nil]; omega) (by omega) (Nat.le_trans hlo hB.size)
  have hapw := (Appended.step v hB).trans hap
  refine ⟨v', w', hrun, ⟨hs ++ [⟨pa, x.length, pc⟩], by simp [hl], ho', fun i h1 h2 => ?_⟩, hapw⟩
  have key : ∀ {a b : Nat} {u : Value} {l : List V}, rl ≤ a → Row1 a b w u l → b ≤ w.heap.size → (∀ k, v.ownBlock = some k → k < a ∨ b ≤ k) → ∃ a b, rl ≤ a ∧ Row1 a b w' u l ∧ b ≤ w'.heap.size ∧ ∀ k, v'.ownBlock = some k → k < a ∨ b ≤ k := by
    intro a b u l e0 e1 e2 e3
    refine ⟨a, b, e0, e1.agree Row1.loc (hapw.agree e2 e3), Nat.le_trans e2 hapw.grown.size, fun k hk => ?_⟩
    rcases hapw.moved with e | ⟨m, e, hm⟩
    · rw [e] at hk; exact e3 k hk
    · rw [e] at hk; injection hk with hk; omega
  by_cases hi2 : i < hs.length
  · rw [List.getElem_append_left hi2, List.getElem_append_left (by omega)]
    obtain ⟨a, b, e0, e1, e2, e3⟩ := hr i hi2 (by omega)
    exact key e0 e1 e2 e3
  · have e1 : i = hs.length := by rw [List.length_append, List.length_singleton] at h1; omega
    subst e1
    rw [List.getElem_append_right (Nat.le_refl _), List.getElem_append_right (by omega)]
    simp only [hl, Nat.sub_self, List.getElem_cons_zero]
    exact key hra hx hbw hk
theorem size_RowH : ∀ w, (sizeOf (Try.prog.elem 32)).run Try.prog w = .ok 1 w := fun w => by kernel_rfl
set_option maxRecDepth 100000 in
set_option maxHeartbeats 4000000 in
theorem put_any (lo hi lx hx : Nat) (out : List (List V)) (x : List V) (vo vx : Value) (w : World) (hv : Rws lo hi w vo out) (hxr : Row1 lx hx w vx x) (hhi : hi ≤ w.heap.size) (hlo : lo ≤ w.heap.size) (hhx : hx ≤ w.heap.size) (hup : Up cmpR out) (hlen : out.length ≤ 1000000000000) (hxl : x.length ≤ 4000000000000)
    (hsx : ∀ a ∈ x, a.s.length ≤ 9223372036854775807) (hso : ∀ y ∈ out, ∀ a ∈ y, a.s.length ≤ 9223372036854775807) (R : Ending → World → Prop)
    (hR : ∀ w' v', Below w.heap.size w w' → Rws lo w'.heap.size w' v' (insR cmpR x out) → R (.returned v') w') : Calls Try.prog 115 #[vo, vx] w R := by
  have HR := Lib.hid hR
  have Hv := Lib.hid hv
  have Hx := Lib.hid hxr
  have Hup := Lib.hid hup
  have Hsx := Lib.hid hsx
  have Hso := Lib.hid hso
  obtain ⟨ao, co, rfl, -, -, -, -⟩ := hv.form
  obtain ⟨ax, cx, rfl, -, -, -, -⟩ := hxr.form
  clear hR hv hxr hup hsx hso
  go_enter Try.func115, Try.ntmps115
  go_upto_block 0 with fail
  go_cut [5] (fun t5 wx => ∃ a : Nat, a ≤ out.length ∧ t5 = .int .i64 a ∧ (∀ j (hj : j < out.length), a ≤ j → cmpR x out[j] < 0) ∧ (∀ j (hj : j < out.length), j < a → cmpR out[j] x < 0) ∧ Below w.heap.size w wx)
  case first =>
    go_wp2_with fail
    go_loopw [5] (fun t5 wr => ∃ a : Nat, a ≤ out.length ∧ t5 = .int .i64 a ∧ (∀ j (hj : j < out.length), a ≤ j → cmpR x out[j] < 0) ∧ Below w.heap.size w wr) (fun t5 _ => (intOf t5).toNat)
    case atStart => exact ⟨out.length, Nat.le_refl _, rfl, fun j hj h => absurd hj (by omega), Below.refl _ _⟩
    case round =>
      obtain ⟨a, ha, rfl, hgt, hB⟩ := hrel
      obtain ⟨wo, ewo⟩ : ∃ x, x = wr := ⟨_, rfl⟩
      subst ewo
      have Hgt := Lib.hid hgt
      have HB := Lib.hid hB
      have hz := hB.size
      clear hgt hB
      rcases Nat.eq_zero_or_pos a with h0 | h0
      · subst h0
        go_wp2_with fail
        go_meet
        exact ⟨0, Nat.zero_le _, rfl, Hgt.out, fun j hj h => absurd h (Nat.not_lt_zero _), HB.out⟩
      · obtain ⟨m, hm⟩ : ∃ m, a = m + 1 := ⟨a - 1, by omega⟩
        have hmo : m < out.length := by omega
        obtain ⟨ao', cap', e', -, -, -, hc⟩ := (Sl.below Hv.out rowE_loc HB.out hhi).form
        injection e' with e1 e2 e3
        subst e1 e3
        obtain ⟨b, off, rfl, hb1, hb2, hcc⟩ := hc m hmo
        obtain ⟨cs, _, hcs, sv, rfl, hsv⟩ := hcc m hmo
        have g0 := hcs.c1
        rw [Nat.mul_one] at g0
        have wsub : IntKind.i64.wrap ((a : Int) - 1) = (m : Int) := by rw [show (a : Int) - 1 = (m : Int) by omega]; exact wrap_ok (by omega) (by omega)
        have a0 : (0 : Int) < (a : Int) := by omega
        have m0 : (0 : Int) ≤ (m : Int) := by omega
        have ml : (m : Int) < (out.length : Int) := by omega
        have Hsv := Lib.hid hsv
        have Hmy := Lib.hid (Hso.out _ (List.getElem_mem hmo))
        have hslv := hsv
        obtain ⟨ay, cy, rfl, -, -, -, -⟩ := hslv.form
        have Hhit : Hid (cmpR x out[m] = 0 → insR cmpR x out = out) := Lib.hid (fun h => insR_hit cmpR_cmp x Hup.out hmo h)
        have Hbelow : Hid (0 < cmpR x out[m] → ∀ j (hj : j < out.length), j < a → cmpR out[j] x < 0) := Lib.hid (fun h j hj hja => by
          have e1 := cmpR_cmp.anti x out[m]
          by_cases ejm : j = m
          · subst ejm; omega
          · exact cmpR_cmp.trans _ out[m] _ (up_lt Hup.out (by omega) hmo) (by omega))
        have Habove : Hid (cmpR x out[m] < 0 → ∀ j (hj : j < out.length), m ≤ j → cmpR x out[j] < 0) := Lib.hid (fun h j hj hja => by
          by_cases ejm : j = m
          · subst ejm; exact h
          · exact Hgt.out j hj (by omega))
        have Hm := Lib.hid hm
        clear hcc hcs hc hsv hslv hm
        generalize out[m] = y at *
        go_wp2_with fail
        refine refRowsCompare_any lx hx lo hi x y _ _ wo (Sl.below Hx.out Row1.loc HB.out hhx) Hsv.out (by omega) (by omega) Hsx.out Hmy.out _ (fun w2 hB2 => ?_)
        have HB2 := Lib.hid (HB.out.trans (hB2.mono hz))
        clear hB2
        have h3 := cmpR_cmp.three x y
        rcases h3 with h3 | h3 | h3
        · have Hab := Lib.hid (Habove.out (by omega))
          rw [h3]
          clear h3
          go_wp2_with fail
          go_roundw
          case rel => exact ⟨m, by omega, rfl, Hab.out, HB2.out⟩
          case measure => have := Hm.out; simp [intOf]; omega
        · have hr := HR.out w2 (.slice (some ⟨b, off, none⟩) out.length co) HB2.out (by rw [Hhit.out h3]; exact (Sl.below Hv.out rowE_loc HB2.out hhi).mono rowE_loc (Nat.le_refl _) (by have := HB2.out.size; omega))
          rw [h3]
          clear h3
          go_wp2_with fail
          first | exact hr | exact fin hr rfl
        · have Hbe := Lib.hid (Hbelow.out (by omega))
          rw [h3]
          clear h3
          go_wp2_with fail
          go_meet
          exact ⟨a, ha, rfl, Hgt.out, Hbe.out, HB2.out⟩
  case rest =>
    obtain ⟨a, ha, rfl, hgt, hlt, hB⟩ := hcut
    have HI := Lib.hid (insR_at cmpR_cmp x out a ha hgt hlt)
    have HB := Lib.hid hB
    have hz := hB.size
    clear hgt hlt hB
    obtain ⟨v1, w1, hr1, ho1, ha1⟩ := appVL (lo := wc.heap.size) (Own.nil V.enc 24 3 wc.heap.size wc) (Sl.below Hx.out Row1.loc HB.out hhx) (by simpa using hxl) (Nat.le_refl _)
    rw [List.nil_append] at ho1
    have hB1 : Below wc.heap.size wc w1 := ha1.below (Nat.le_refl _) (fun k e => by cases e)
    have hz1 := hB1.size
    have HB1 := Lib.hid (HB.out.trans (hB1.mono hz))
    have Hrow := Lib.hid (OwnV.sl ho1)
    obtain ⟨p1, c1, rfl⟩ := Own.slice ho1
    obtain ⟨s2, hrun2, hs2⟩ := Sl.upTo (Sl.below Hv.out rowE_loc HB1.out hhi) 32 Try.underlying32 size_RowH a ha
    obtain ⟨v2, w2, hr2, ho2, ha2⟩ := LR.app (LR.nil w1.heap.size lo w1) hs2 (Nat.le_refl _) (by omega) (fun k e => by cases e) (by simp; omega) (Nat.le_refl _)
    rw [List.nil_append] at ho2
    have hB2 : Below w1.heap.size w1 w2 := ha2.below (Nat.le_refl _) (fun k e => by cases e)
    have hz2 := hB2.size
    have hk2 := ho2.lt
    obtain ⟨v3, w3, hr3, ho3, ha3⟩ := LR.snoc ho2 (show lo ≤ wc.heap.size by omega) p1 c1 x (Sl.below Hrow.out Row1.loc hB2 (Nat.le_refl _)) (by omega) (fun k hk => by have := hk2 k hk; omega) rfl (by rw [List.length_take]; omega) (by omega)
    have hB3 : Below w1.heap.size w1 w3 := hB2.trans (ha3.below hz2 (fun k hk => (hk2 k hk).1))
    have hz3 := hB3.size
    have hk3 := ho3.lt
    have HB3 := Lib.hid (HB1.out.trans (hB3.mono (by omega)))
    obtain ⟨s4, hrun4, hs4⟩ := Sl.fromOn (Sl.below Hv.out rowE_loc HB3.out hhi) 32 Try.underlying32 size_RowH a ha
    obtain ⟨v4, w4, hr4, ho4, ha4⟩ := LR.app ho3 hs4 (Nat.le_refl _) (by omega) (fun k hk => by have := hk3 k hk; omega) (by simp; omega) (by omega)
    have hr := HR.out w4 v4 (HB3.out.trans (ha4.below (by omega) (fun k hk => by have := hk3 k hk; omega))) (by rw [HI.out]; exact ho4.rws (by omega))
    have Hr := Lib.hid hr
    clear ho1 ha1 hB1 hs2 ho2 ha2 hB2 hk2 ho3 ha3 hB3 hk3 hs4 ho4 ha4 hr
    go_wp2_with (at_builtin; refine AtApp.of ?_)
    refine AtApp.go hr1 rfl rfl rfl rfl ?_
    go_wp2_with (at_builtin; refine AtApp.of ?_)
    refine AtApp.go hr2 rfl rfl rfl rfl ?_
    go_wp2_with (at_builtin; refine AtApp.of ?_)
    refine AtApp.go hr3 rfl rfl rfl rfl ?_
    go_wp2_with (at_builtin; refine AtApp.of ?_)
    refine AtApp.go hr4 rfl rfl rfl rfl ?_
    go_wp2_with fail
    first | exact Hr.out | exact fin Hr.out rfl
end Go.Proofs.Ytpncblagjkbemaa
