/- What a set has not; And, Minus, Covers; do two facts meet? -/
import Derived.Test.YtkcpanaojehgiaaSpnB
namespace Go.Proofs.Ytkcpanaojehgiaa
open Go.RowKit
set_option linter.unusedVariables false
set_option linter.unusedSimpArgs false

set_option maxRecDepth 100000 in
set_option maxHeartbeats 4000000 in
theorem rest1_any (lo ab ob : Nat) (at' tt : Int) (xs : List Sp) (v : Value) (W : World) (hat : Blk W ab [.int .i64 at'] 2) (hob : Blk W ob [v] 43) (ho : OwnS lo W v xs) (hlo : lo ≤ W.heap.size) (hl : xs.length ≤ 8000000000000)
    (hva : v.ownBlock ≠ some ab) (hvo : v.ownBlock ≠ some ob) (hab : ab ≠ ob) (R : Ending → World → Prop)
    (hR : ∀ W' v' r, Only (fun z => z = ob ∨ v.ownBlock = some z) W W' → Blk W' ab [.int .i64 at'] 2 → Blk W' ob [v'] 43 → OwnS lo W' v' (xs ++ if at' < tt then [⟨at', tt⟩] else []) → (v'.ownBlock = v.ownBlock ∨ ∃ k, v'.ownBlock = some k ∧ W.heap.size ≤ k) → R (.returned r) W') :
    Calls Try.prog 84 #[.int .i64 tt, .pointer (some ⟨ab, 0, none⟩), .pointer (some ⟨ob, 0, none⟩)] W R := by
  have HR := Lib.hid hR
  have Hat := Lib.hid hat
  have Hob := Lib.hid hob
  have Ho := Lib.hid ho
  obtain ⟨po, co, rfl⟩ := Own.slice ho
  have a0 := hat.cells.c1
  have o0 := hob.cells.c1
  clear hR hat hob ho
  by_cases hlt : at' < tt
  · have hH := HR.out
    rw [if_pos hlt] at hH
    have HR := Lib.hid hH
    clear hH
    obtain ⟨v8, W8, hr8, ho8, ha8⟩ := appS1 Ho.out ⟨at', tt⟩ (n := W.heap.size) rfl hl hlo
    obtain ⟨g8, cap8, rfl, -, -, -, -, -, -⟩ := Own.form ho8 (by simp)
    have hl8n : (xs ++ [(⟨at', tt⟩ : Sp)]).length = xs.length + 1 := by simp
    rw [hl8n] at ho8 ha8 hr8
    have hal := alloc_below W (.cells #[.int .i64 at', .int .i64 tt] 58)
    have hO8 : Only (fun z => z = ob ∨ (Value.slice po xs.length co).ownBlock = some z) W W8 := ⟨ha8.grown.os, ha8.grown.tape, ha8.grown.output, ha8.grown.size, fun k hk hne => ha8.grown.block k hk (fun e => hne (.inr e.symm))⟩
    have hat8 := ha8.blk Hat.out hva
    have hob8 := ha8.blk Hob.out hvo
    have hg8 := ha8.apart Hob.out.lt hvo
    have hmv := ha8.moved
    have h9 : Only (fun z => z = ob ∨ (Value.slice po xs.length co).ownBlock = some z) W8 (W8.setCell ⟨ob, 0, none⟩ (.slice (some ⟨g8, 0, none⟩) (xs.length + 1) cap8)) := Only.setCell W8 (p := ⟨ob, 0, none⟩) (.inl rfl) _
    have hat9 := hat8.other (p := ⟨ob, 0, none⟩) hab (.slice (some ⟨g8, 0, none⟩) (xs.length + 1) cap8)
    have hob9 := hob8.set 0 (.slice (some ⟨g8, 0, none⟩) (xs.length + 1) cap8)
    have hoo9 := Own.setOther ho8 (p := ⟨ob, 0, none⟩) hg8 (.slice (some ⟨g8, 0, none⟩) (xs.length + 1) cap8)
    have hr := fun r => HR.out _ _ r (hO8.trans h9) hat9 hob9 hoo9 hmv
    have f8 := hob8.free 0
    have c8 := hob8.cells.c1
    have Hr := Lib.hid hr
    clear hal hO8 hat8 hob8 h9 hat9 hob9 hoo9 hr ho8 ha8 hg8 hmv
    go_enter Try.func84, Try.ntmps84
    go_wp2_with (at_builtin; refine AtApp.of ?_)
    refine AtApp.go hr8 rfl rfl rfl rfl ?_
    clear hr8 a0 o0
    go_wp2_with fail
    go_end0
    exact Hr.out _
  · have hr := fun r => HR.out W _ r (Only.refl _ _) Hat.out Hob.out (by rw [if_neg hlt, List.append_nil]; exact Ho.out) (.inl rfl)
    have Hr := Lib.hid hr
    clear hr
    go_enter Try.func84, Try.ntmps84
    go_wp2_with fail
    go_end0
    exact Hr.out _
theorem restL_bound (l : List Sp) : ∀ at', (restL at' l).length ≤ l.length + 1 := by
  induction l with
  | nil => intro at'; simp only [restL]; split <;> simp
  | cons x l ih =>
    intro at'
    have := ih x.t
    simp only [restL, List.length_append, List.length_cons]
    split <;> simp <;> omega
set_option maxRecDepth 100000 in
set_option maxHeartbeats 8000000 in
theorem rest_any (lo hi : Nat) (l : List Sp) (v : Value) (w : World) (hv : Spans lo hi w v l) (hhi : hi ≤ w.heap.size) (hlen : l.length ≤ 2000000000000) (R : Ending → World → Prop)
    (hR : ∀ w' v', Below w.heap.size w w' → OwnS w.heap.size w' v' (restL (-9223372036854775808) l) → R (.returned v') w') : Calls Try.prog 76 #[v] w R := by
  have HR := Lib.hid hR
  have Hv := Lib.hid hv
  obtain ⟨av, cv, rfl, -, -, -, -⟩ := hv.form
  clear hR hv
  have hB0 := alloc_below w (.cells #[.slice none 0 0] 43)
  have ho0 := Blk.new w [.slice none 0 0] 43 rfl
  have hs0 : (w.alloc (.cells #[.slice none 0 0] 43)).heap.size = w.heap.size + 1 := by simp
  have hB1 := alloc_below (w.alloc (.cells #[.slice none 0 0] 43)) (.cells #[.int .i64 (-9223372036854775808)] 2)
  have ha0 := Blk.new (w.alloc (.cells #[.slice none 0 0] 43)) [.int .i64 (-9223372036854775808)] 2 hs0.symm
  have hs2 : ((w.alloc (.cells #[.slice none 0 0] 43)).alloc (.cells #[.int .i64 (-9223372036854775808)] 2)).heap.size = w.heap.size + 2 := by simp
  go_enter Try.func76, Try.ntmps76
  go_upto_region 3 with fail
  have ho2 := ho0.below hB1 ho0.lt
  have HB2 := Lib.hid (hB0.trans (hB1.mono hB0.size))
  generalize (w.alloc (.cells #[.slice none 0 0] 43)).alloc (.cells #[.int .i64 (-9223372036854775808)] 2) = w2 at *
  have Ho2 := Lib.hid ho2
  have Ha2 := Lib.hid ha0
  clear ho0 hB0 hB1 hs0 ho2 ha0
  go_wp2_with fail
  go_loopw [7, 11] (fun _ t11 wr => ∃ (k : Nat) (at' : Int) (e : List Sp) (u : Value), k ≤ l.length ∧ t11 = .int .i64 k ∧ Blk wr (w.heap.size + 1) [.int .i64 at'] 2 ∧ Blk wr w.heap.size [u] 43 ∧ OwnS w.heap.size wr u e ∧ u.ownBlock ≠ some (w.heap.size + 1) ∧ u.ownBlock ≠ some w.heap.size ∧ Below w.heap.size w wr ∧ w.heap.size + 2 ≤ wr.heap.size ∧ e.length ≤ k ∧ e ++ restL at' (l.drop k) = restL (-9223372036854775808) l) (fun _ t11 _ => l.length - (intOf t11).toNat)
  case atStart => exact ⟨0, _, [], _, Nat.zero_le _, rfl, Ha2.out, Ho2.out, Own.nil _ _ _ _ _, (fun e => by cases e), (fun e => by cases e), HB2.out, by omega, Nat.le_refl _, rfl⟩
  case round =>
    obtain ⟨k, at', e, u, hk, rfl, hba, hbo, hoo, hua, huo, hB, hsz, hel, heq⟩ := hrel
    obtain ⟨wo, ewo⟩ : ∃ x, x = wr := ⟨_, rfl⟩
    subst ewo
    obtain ⟨po, co, rfl⟩ := Own.slice hoo
    have Hba := Lib.hid hba
    have Hbo := Lib.hid hbo
    have Hoo := Lib.hid hoo
    have Hua := Lib.hid hua
    have Huo := Lib.hid huo
    have HB := Lib.hid hB
    have Heq := Lib.hid heq
    have kk0 : (0 : Int) ≤ (k : Int) := by omega
    clear hba hbo hoo hua huo heq
    by_cases hlt : k < l.length
    · obtain ⟨ao', cap, e', -, -, -, hc⟩ := (Sl.below Hv.out Sp.loc hB hhi).form
      injection e' with e1 e2 e3
      subst e1 e3
      obtain ⟨b, off, rfl, hb1, hb2, hcc⟩ := hc k hlt
      obtain ⟨cs, _, hcs, rfl⟩ := hcc k hlt
      obtain ⟨h0, h1⟩ := hcs.c2
      have hdr : l.drop k = l[k] :: l.drop (k + 1) := List.drop_eq_getElem_cons hlt
      have Hst : Hid ((e ++ if at' < l[k].f then [⟨at', l[k].f⟩] else []) ++ restL l[k].t (l.drop (k + 1)) = restL (-9223372036854775808) l) := Lib.hid (by
        have h := Heq.out
        rw [hdr, restL] at h
        rw [← h, List.append_assoc])
      have kkl : (k : Int) < (l.length : Int) := by omega
      clear hcs hc hcc hB hdr
      generalize l[k] = s at *
      have hal := alloc_below wo (.cells #[.int .i64 s.f, .int .i64 s.t] 58)
      have hbk := Blk.new wo [.int .i64 s.f, .int .i64 s.t] 58 rfl
      go_upto_region 7 with fail
      generalize wo.alloc (.cells #[.int .i64 s.f, .int .i64 s.t] 58) = wa at *
      obtain ⟨y0, y1⟩ := hbk.cells.c2
      have hza := hal.size
      have hbkl := hbk.lt
      have HBa := Lib.hid (HB.out.trans (hal.mono HB.out.size))
      go_wp2_with fail
      refine rest1_any w.heap.size (w.heap.size + 1) w.heap.size at' s.f e _ wa (Hba.out.below hal Hba.out.lt) (Hbo.out.below hal Hbo.out.lt) (Own.kept Hoo.out hal) (by omega) (by omega) Hua.out Huo.out (by omega) _ (fun w8 v8 r8 hO8 hat8 hob8 hoo8 hmv => ?_)
      have hvl := Own.lt Hoo.out
      have hb8 := hO8.blk hbk (by
        rintro (h | h)
        · omega
        · have := (hvl _ h).2; omega)
      obtain ⟨z0, z1⟩ := hb8.cells.c2
      have a8 := hat8.cells.c1
      have f8 := hat8.free 0
      have hO9 : Only (· = w.heap.size + 1) w8 (w8.setCell ⟨w.heap.size + 1, 0, none⟩ (.int .i64 s.t)) := Only.setCell (A := (· = w.heap.size + 1)) w8 (p := ⟨w.heap.size + 1, 0, none⟩) rfl _
      have hat9 := Lib.hid (hat8.set 0 (.int .i64 s.t))
      have hob9 := Lib.hid (hO9.blk hob8 (by omega))
      have hua8 : v8.ownBlock ≠ some (w.heap.size + 1) := by
        rcases hmv with h | ⟨q, h, hq⟩
        · rw [h]; exact Hua.out
        · rw [h]; intro h2; injection h2 with h2; omega
      have huo8 : v8.ownBlock ≠ some w.heap.size := by
        rcases hmv with h | ⟨q, h, hq⟩
        · rw [h]; exact Huo.out
        · rw [h]; intro h2; injection h2 with h2; omega
      have Hua8 := Lib.hid hua8
      have Huo8 := Lib.hid huo8
      have hoo9 := Lib.hid (Own.only hoo8 hO9 (fun z hz => by rw [hz]; exact hua8))
      have HB9 := Lib.hid (HBa.out.trans ((hO8.below (B := w.heap.size) (by omega) (fun z hz => by
        rcases hz with h | h
        · omega
        · exact (hvl z h).1)).trans (hO9.below (B := w.heap.size) (by have := hO8.size; omega) (fun z hz => by omega))))
      have hz8 := hO8.size
      have hz9 := hO9.size
      have hln : (e ++ if at' < s.f then [(⟨at', s.f⟩ : Sp)] else []).length ≤ k + 1 := by
        rw [List.length_append]; split <;> simp <;> omega
      have Hln := Lib.hid hln
      clear hal hbk hO8 hat8 hob8 hoo8 hmv hvl hb8 hO9 hua8 huo8 y0 y1 h0 h1 hln
      go_wp2_with fail
      go_roundw
      case rel => exact ⟨k + 1, s.t, _, v8, by omega, by go_num, hat9.out, hob9.out, hoo9.out, Hua8.out, Huo8.out, HB9.out, by omega, Hln.out, Hst.out⟩
      case measure => simp [intOf]; omega
    · obtain rfl : k = l.length := by omega
      have hE : e ++ (if at' < 9223372036854775807 then [⟨at', 9223372036854775807⟩] else []) = restL (-9223372036854775808) l := by
        have h := Heq.out
        rw [List.drop_length, restL] at h
        exact h
      have HE := Lib.hid hE
      have hBs := HB.out.size
      clear hB hE
      go_wp2_with fail
      refine rest1_any w.heap.size (w.heap.size + 1) w.heap.size at' 9223372036854775807 e _ wo Hba.out Hbo.out Hoo.out (by omega) (by omega) Hua.out Huo.out (by omega) _ (fun w8 v8 r8 hO8 hat8 hob8 hoo8 hmv => ?_)
      have hvl := Own.lt Hoo.out
      have HB8 := HB.out.trans (hO8.below (B := w.heap.size) (by omega) (fun z hz => by
        rcases hz with h | h
        · omega
        · exact (hvl z h).1))
      rw [HE.out] at hoo8
      have c8 := hob8.cells.c1
      obtain ⟨p8, cc8, rfl⟩ := Own.slice hoo8
      have hr := HR.out _ _ HB8 hoo8
      clear hO8 hat8 hob8 hoo8 hmv hvl HB8
      go_wp2_with fail
      first | exact hr | exact fin hr rfl
end Go.Proofs.Ytkcpanaojehgiaa
