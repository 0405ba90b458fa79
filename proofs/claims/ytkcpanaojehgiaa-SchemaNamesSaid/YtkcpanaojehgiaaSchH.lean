/- The document's values of an entity's attribute. -/
import Derived.Test.YtkcpanaojehgiaaSchG
namespace Go.Proofs.Ytkcpanaojehgiaa
open Go.RowKit
set_option linter.unusedVariables false
set_option linter.unusedSimpArgs false

abbrev OwnV := Own V.enc 47 3
theorem infoV : (Try.prog.info? 47).map (fun i => (i.zero, i.size, i.bytes)) = some (some (.agg #[.int .i64 0, .int .i64 0, .string ⟨#[]⟩]), 3, 32) := by kernel_rfl
theorem appV1 {w : World} {lo : Nat} {v : Value} {xs : List V} (h : OwnV lo w v xs) (x : V) {n : Nat} (hn : n = w.heap.size) (hb : xs.length ≤ 2000000000007) (hlo : lo ≤ w.heap.size) :
    ∃ v' w', (Builtin.append_ #[89, 89] 89 #[v, .slice (some ⟨n, 0, none⟩) 1 1]).run Try.prog (w.alloc (.cells #[.int .i64 x.kind, .int .i64 x.n, .string ⟨x.s.toArray⟩] 47)) = .ok v' w' ∧ OwnV lo w' v' (xs ++ [x]) ∧ Appended w v w' v' := by
  subst hn
  have hB := alloc_below w (.cells x.enc.toArray 47)
  obtain ⟨i0, hi, hz0, hz1, hz2⟩ := info_parts infoV
  have hc := CellsAt.newAt w x.enc 47 rfl
  have hs : Src Try.prog 3 89 (.slice (some ⟨w.heap.size, 0, none⟩) 1 1) [x].length ([x].flatMap V.enc) (w.alloc (.cells x.enc.toArray 47)) :=
    Src.ofSlice _ Try.underlying89 _ _ _ _ (by simp [V.enc]) (fun j u hu => by rw [Addr.add_lit]; exact hc j u (by simpa using hu)) (fun u hu => by
      simp only [List.flatMap_cons, List.flatMap_nil, List.append_nil, V.enc, List.mem_cons, List.not_mem_nil, or_false] at hu
      rcases hu with rfl | rfl | rfl <;> rfl)
  obtain ⟨v', w', hr, ho, ha⟩ := (Own.kept h hB).app _ _ _ i0 _ 32 Try.underlying89 hi hz0 hz1 hz2 rfl hs (by simp only [List.length_cons, List.length_nil]; omega) (by omega) (Nat.le_trans hlo hB.size)
  exact ⟨v', w', hr, ho, (Appended.step v hB).trans ha⟩
theorem OwnV.sl {lo : Nat} {w : World} {v : Value} {xs : List V} (h : OwnV lo w v xs) : Sl (flat V.enc) 3 lo w.heap.size w v xs := Sl.ofOwn (fun _ => rfl) h
theorem vals_take (l : List Ft) (e a : Int) (k : Nat) (h : k < l.length) : vals (ofE (l.take (k + 1)) e) a = vals (ofE (l.take k) e) a ++ (if l[k].e = e ∧ l[k].a = a then [l[k].v] else []) := by
  unfold vals ofE
  rw [List.take_succ_eq_append_getElem h, List.filter_append, List.filter_append, List.map_append]
  congr 1
  by_cases h1 : l[k].e = e
  · by_cases h2 : l[k].a = a
    · simp [h1, h2]
    · simp [h1, h2]
  · simp [h1]
theorem vals_len (l : List Ft) (e a : Int) : (vals (ofE l e) a).length ≤ l.length := by
  unfold vals ofE
  rw [List.length_map]
  exact Nat.le_trans (List.length_filter_le _ _) (List.length_filter_le _ _)
set_option maxRecDepth 100000 in
set_option maxHeartbeats 8000000 in
theorem values_any (lo hi : Nat) (l : List Ft) (v : Value) (e a : Int) (w : World) (hv : Fts lo hi w v l) (hhi : hi ≤ w.heap.size) (hlen : l.length ≤ 2000000000000) (R : Ending → World → Prop)
    (hR : ∀ w' v', Below w.heap.size w w' → OwnV w.heap.size w' v' (vals (ofE l e) a) → R (.returned v') w') : Calls Try.prog 62 #[v, .int .i64 e, .int .i64 a] w R := by
  have Hv := Lib.hid hv
  have HR := Lib.hid hR
  obtain ⟨ao, cap, rfl, -, -, -, -⟩ := hv.form
  clear hv hR
  go_enter Try.func62, Try.ntmps62
  go_wp2_with fail
  go_loopw [7, 8] (fun t7 t8 wr => ∃ (k : Nat), k ≤ l.length ∧ t8 = .int .i64 k ∧ OwnV w.heap.size wr t7 (vals (ofE (l.take k) e) a) ∧ Below w.heap.size w wr) (fun _ t8 _ => l.length - (intOf t8).toNat)
  case atStart => exact ⟨0, Nat.zero_le _, rfl, Own.nil _ _ _ _ _, Below.refl _ _⟩
  case round =>
    obtain ⟨k, hk, rfl, ho, hB⟩ := hrel
    obtain ⟨wo, ewo⟩ : ∃ x, x = wr := ⟨_, rfl⟩
    subst ewo
    have HB := Lib.hid hB
    have Ho := Lib.hid ho
    have hz := hB.size
    by_cases hlt : k < l.length
    · obtain ⟨ao', cap', e', -, -, -, hc⟩ := (Sl.below Hv.out ftE_loc hB hhi).form
      injection e' with e1 e2 e3
      subst e1 e3
      obtain ⟨b, off, rfl, hb1, hb2, hcc⟩ := hc k hlt
      obtain ⟨cs, _, hcs, sv, rfl, -⟩ := hcc k hlt
      obtain ⟨h0, h1, h2, h3, h4, -⟩ := hcs.f6
      have hbw : b < wo.heap.size := by omega
      have Hst := Lib.hid (vals_take l e a k hlt)
      have kk0 : (0 : Int) ≤ (k : Int) := by omega
      have kkl : (k : Int) < (l.length : Int) := by omega
      have hvl := vals_len (l.take k) e a
      rw [List.length_take] at hvl
      have Hvl := Lib.hid (show (vals (ofE (l.take k) e) a).length ≤ 2000000000007 by omega)
      clear hcs hB hc hcc ho hvl
      generalize hx : l[k] = x at *
      clear hx
      by_cases he : x.e = e
      · by_cases ha : x.a = a
        · obtain ⟨v8, w8, hr8, ho8, ha8⟩ := appV1 Ho.out x.v (n := wo.heap.size) rfl Hvl.out hz
          have Ho8 := Lib.hid ho8
          have HB8 := Lib.hid (HB.out.trans ((ha8.below (B := w.heap.size) hz (fun k hk => (Own.lt Ho.out k hk).1))))
          clear ho8 ha8
          go_wp2_with (at_builtin; refine AtApp.of ?_)
          refine AtApp.go hr8 rfl rfl rfl rfl ?_
          clear hr8
          go_wp2_with fail
          go_roundw
          case rel => exact ⟨k + 1, by omega, by go_num, by rw [Hst.out, if_pos ⟨he, ha⟩]; exact Ho8.out, HB8.out⟩
          case measure => simp [intOf]; omega
        · have ha2 : (x.a == a) = false := by simpa using ha
          go_wp2_with fail
          go_roundw
          case rel => exact ⟨k + 1, by omega, by go_num, by rw [Hst.out, if_neg (fun h => ha h.2), List.append_nil]; exact Ho.out, HB.out⟩
          case measure => simp [intOf]; omega
      · have he2 : (x.e == e) = false := by simpa using he
        go_wp2_with fail
        go_roundw
        case rel => exact ⟨k + 1, by omega, by go_num, by rw [Hst.out, if_neg (fun h => he h.1), List.append_nil]; exact Ho.out, HB.out⟩
        case measure => simp [intOf]; omega
    · obtain rfl : k = l.length := by omega
      have hr := HR.out wo _ HB.out (by rw [List.take_length] at ho; exact ho)
      clear ho hB
      go_wp2_with fail
      first | exact hr | exact fin hr rfl
set_option maxRecDepth 100000 in
set_option maxHeartbeats 4000000 in
theorem yes_any (lo hi : Nat) (xs : List V) (v : Value) (w : World) (hv : Sl (flat V.enc) 3 lo hi w v xs) (R : Ending → World → Prop) (hR : R (.returned (.bool (yesL xs))) w) : Calls Try.prog 63 #[v] w R := by
  obtain ⟨ao, cap, rfl, hcl, hcm, -, hc⟩ := hv.form
  have Hc := Lib.hid hc
  clear hv hc
  go_enter Try.func63, Try.ntmps63
  go_wp2_with fail
  go_loop [3] (fun t3 => ∃ (k : Nat), k ≤ xs.length ∧ t3 = .int .i64 k ∧ yesL (xs.take k) = false) (fun t3 => xs.length - (intOf t3).toNat)
  case atStart => exact ⟨0, Nat.zero_le _, rfl, rfl⟩
  case round =>
    obtain ⟨k, hk, rfl, hno⟩ := hrel
    have Hno := Lib.hid hno
    clear hno
    by_cases hlt : k < xs.length
    · obtain ⟨b, off, rfl, hb1, hb2, hcc⟩ := Hc.out k hlt
      obtain ⟨cs, _, hcs, rfl⟩ := hcc k hlt
      obtain ⟨h0, h1, h2⟩ := hcs.c3
      have Hst : Hid (yesL (xs.take (k + 1)) = (yesL (xs.take k) || (xs[k].kind == 2 && xs[k].n == 1))) := Lib.hid (by unfold yesL; exact any_take_succ _ _ _ hlt)
      have Hx : Hid (xs[k].kind = 2 → xs[k].n = 1 → yesL xs = true) := Lib.hid (fun h1 h2 => by
        unfold yesL
        rw [List.any_eq_true]
        exact ⟨xs[k], List.getElem_mem hlt, by simp [h1, h2]⟩)
      have kk0 : (0 : Int) ≤ (k : Int) := by omega
      have kkl : (k : Int) < (xs.length : Int) := by omega
      clear hcs hcc
      generalize hx : xs[k] = x at *
      clear hx
      by_cases hk2 : x.kind = 2
      · by_cases hn1 : x.n = 1
        · have hy := Hx.out hk2 hn1
          rw [hy] at hR
          clear hy
          go_wp2_with fail
          first | exact hR | exact fin hR rfl
        · have hn2 : (x.n == 1) = false := by simpa using hn1
          go_wp2_with fail
          go_round
          case rel => exact ⟨k + 1, by omega, by go_num, by rw [Hst.out, Hno.out]; simp [hn1]⟩
          case measure => simp [intOf]; omega
      · have hk3 : (x.kind == 2) = false := by simpa using hk2
        go_wp2_with fail
        go_round
        case rel => exact ⟨k + 1, by omega, by go_num, by rw [Hst.out, Hno.out]; simp [hk2]⟩
        case measure => simp [intOf]; omega
    · obtain rfl : k = xs.length := by omega
      have hy := Hno.out
      rw [List.take_length] at hy
      rw [hy] at hR
      clear hy
      go_wp2_with fail
      first | exact hR | exact fin hR rfl
end Go.Proofs.Ytkcpanaojehgiaa
