/- Places of columns among others; a row's values at places: the program's and the document's. -/
import Derived.Test.YtpncblagjkbemaaRowAt
namespace Go.Proofs.Ytpncblagjkbemaa
open Go.RowKit
set_option linter.unusedVariables false
set_option linter.unusedSimpArgs false
attribute [local go_sem ↓] Go.wp_at_zero Go.wp_at_succ

def inE (n : Int) : List Value := [.int .i64 n]
abbrev OwnI := Own inE 3 1
abbrev Ints := Sl (flat inE) 1
theorem Ints.loc : Loc (flat inE) := flat_loc _
theorem infoI : (Try.prog.info? 3).map (fun i => (i.zero, i.size, i.bytes)) = some (some (.int .i64 0), 1, 8) := by kernel_rfl
theorem OwnI.sl {lo : Nat} {w : World} {v : Value} {xs : List Int} (h : OwnI lo w v xs) : Ints lo w.heap.size w v xs := Sl.ofOwn (fun _ => rfl) h
theorem appI1 {w : World} {lo : Nat} {v : Value} {xs : List Int} (h : OwnI lo w v xs) (x : Int) {n : Nat} (hn : n = w.heap.size) (hb : xs.length ≤ 8000000000000) (hlo : lo ≤ w.heap.size) :
    ∃ v' w', (Builtin.append_ #[84, 84] 84 #[v, .slice (some ⟨n, 0, none⟩) 1 1]).run Try.prog (w.alloc (.cells #[.int .i64 x] 3)) = .ok v' w' ∧ OwnI lo w' v' (xs ++ [x]) ∧ Appended w v w' v' := by
  subst hn
  have hB : Below w.heap.size w (w.alloc (.cells (inE x).toArray 3)) := (Below.refl _ _).alloc (Nat.le_refl _) _
  obtain ⟨i0, hi, hz0, hz1, hz2⟩ := info_parts infoI
  have hc := CellsAt.newAt w (inE x) 3 rfl
  have hs : Src Try.prog 1 84 (.slice (some ⟨w.heap.size, 0, none⟩) 1 1) [x].length ([x].flatMap inE) (w.alloc (.cells (inE x).toArray 3)) :=
    Src.ofSlice _ Try.underlying84 _ _ _ _ (by simp [inE]) (fun j u hu => by rw [Addr.add_lit]; exact hc j u (by simpa using hu)) (fun u hu => by
      rw [List.flatMap_cons, List.flatMap_nil, List.append_nil] at hu
      simp only [inE, List.mem_cons, List.not_mem_nil, or_false] at hu
      subst hu; rfl)
  obtain ⟨v', w', hr, ho, ha⟩ := (Own.kept h hB).app _ _ _ i0 _ 8 Try.underlying84 hi hz0 hz1 hz2 rfl hs (by simp only [List.length_cons, List.length_nil]; omega) (by omega) (Nat.le_trans hlo hB.size)
  exact ⟨v', w', hr, ho, (Appended.step v hB).trans ha⟩
/-- Are columns all among others? -/
def withinB (cols of : List S) : Bool := cols.all fun c => decide (0 ≤ placeI of c)
def placesL (cols of : List S) : List Int := cols.map (placeI of)
def pickL (x : List V) (at' : List Int) : List V := at'.map fun k => x.getD k.toNat default
/-- Places that are of a row. -/
def AtOk (n : Nat) (at' : List Int) : Prop := ∀ k ∈ at', 0 ≤ k ∧ k < n
theorem within_no {cols of : List S} {k : Nat} (hk : k < cols.length) (h : placeI of cols[k] < 0) : withinB cols of = false := by
  unfold withinB
  rw [List.all_eq_false]
  exact ⟨_, List.getElem_mem hk, by simp; omega⟩
theorem within_yes {cols of : List S} (h : ∀ k (hk : k < cols.length), 0 ≤ placeI of cols[k]) : withinB cols of = true := by
  unfold withinB
  rw [List.all_eq_true]
  intro c hc
  obtain ⟨k, hk, rfl⟩ := List.getElem_of_mem hc
  simpa using h k hk
theorem within_at {cols of : List S} (h : withinB cols of = true) : ∀ k (hk : k < cols.length), 0 ≤ placeI of cols[k] := by
  unfold withinB at h
  intro k hk
  simpa using List.all_eq_true.1 h _ (List.getElem_mem hk)
theorem places_ok {cols of : List S} (h : withinB cols of = true) : AtOk of.length (placesL cols of) := by
  intro k hk
  obtain ⟨c, hc, rfl⟩ := List.mem_map.1 hk
  unfold withinB at h
  exact ⟨by simpa using List.all_eq_true.1 h c hc, (placeI_lt of c).2⟩
/-- Texts in memory that are not none: where each one stands. -/
theorem Strs.at {lo hi c : Nat} {w : World} {p : Option Addr} {l : List S} (h : Strs lo hi w (.slice p l.length c) l) (hhi : hi ≤ w.heap.size) (hp : 0 < l.length) :
    ∃ b o, p = some ⟨b, o, none⟩ ∧ b < hi ∧ ∀ j (hj : j < l.length), ∀ w', Below w.heap.size w w' → w'.cell? ⟨b, o + j, none⟩ = some (.string ⟨l[j].toArray⟩) := by
  obtain ⟨ao', cap', e', -, -, -, hc⟩ := h.form
  injection e' with e1 e2 e3
  subst e1 e3
  obtain ⟨b, o, rfl, h1, h2, hcc⟩ := hc 0 hp
  refine ⟨b, o, rfl, h2, fun j hj w' hB => ?_⟩
  obtain ⟨cs, -, hcs, rfl⟩ := hcc j hj
  have := (hcs.agree (.below hB (Nat.le_refl _)) (Nat.zero_le _) (show b < w.heap.size by omega)).c1
  rw [Nat.mul_one] at this
  exact this
theorem Ints.at {lo hi c : Nat} {w : World} {p : Option Addr} {l : List Int} (h : Ints lo hi w (.slice p l.length c) l) (hhi : hi ≤ w.heap.size) (hp : 0 < l.length) :
    ∃ b o, p = some ⟨b, o, none⟩ ∧ b < hi ∧ ∀ j (hj : j < l.length), ∀ w', Below w.heap.size w w' → w'.cell? ⟨b, o + j, none⟩ = some (.int .i64 l[j]) := by
  obtain ⟨ao', cap', e', -, -, -, hc⟩ := h.form
  injection e' with e1 e2 e3
  subst e1 e3
  obtain ⟨b, o, rfl, h1, h2, hcc⟩ := hc 0 hp
  refine ⟨b, o, rfl, h2, fun j hj w' hB => ?_⟩
  obtain ⟨cs, -, hcs, rfl⟩ := hcc j hj
  have := (hcs.agree (.below hB (Nat.le_refl _)) (Nat.zero_le _) (show b < w.heap.size by omega)).c1
  rw [Nat.mul_one] at this
  exact this
theorem Row1.at {lo hi c : Nat} {w : World} {p : Option Addr} {l : List V} (h : Row1 lo hi w (.slice p l.length c) l) (hhi : hi ≤ w.heap.size) (hp : 0 < l.length) :
    ∃ b o, p = some ⟨b, o, none⟩ ∧ b < hi ∧ ∀ j (hj : j < l.length), ∀ w', Below w.heap.size w w' → CellsAt w' b (o + j * 3) [.int .i64 l[j].kind, .int .i64 l[j].n, .string ⟨l[j].s.toArray⟩] := by
  obtain ⟨ao', cap', e', -, -, -, hc⟩ := h.form
  injection e' with e1 e2 e3
  subst e1 e3
  obtain ⟨b, o, rfl, h1, h2, hcc⟩ := hc 0 hp
  refine ⟨b, o, rfl, h2, fun j hj w' hB => ?_⟩
  obtain ⟨cs, -, hcs, rfl⟩ := hcc j hj
  exact hcs.agree (.below hB (Nat.le_refl _)) (Nat.zero_le _) (show b < w.heap.size by omega)
set_option maxRecDepth 100000 in
set_option maxHeartbeats 2000000 in
theorem places_any (lo hi lo2 hi2 : Nat) (cols among : List S) (vo va : Value) (w : World) (ho : Strs lo hi w vo cols) (hhi : hi ≤ w.heap.size) (ha : Strs lo2 hi2 w va among) (hhi2 : hi2 ≤ w.heap.size) (hlen : cols.length ≤ 1000000000000) (R : Ending → World → Prop)
    (hno : withinB cols among = false → ∀ w', Below w.heap.size w w' → R (.returned (.tuple #[.slice none 0 0, .bool false])) w')
    (hyes : withinB cols among = true → ∀ w' v', Below w.heap.size w w' → OwnI w.heap.size w' v' (placesL cols among) → R (.returned (.tuple #[v', .bool true])) w') : Calls Try.prog 75 #[vo, va] w R := by
  have Hno := Lib.hid hno
  have Hyes := Lib.hid hyes
  have Ho := Lib.hid ho
  have Ha := Lib.hid ha
  obtain ⟨ao, co, rfl, -, -, -, -⟩ := ho.form
  obtain ⟨aa, ca, rfl, -, -, -, -⟩ := ha.form
  have hol := ho.len
  clear hno hyes ho ha
  go_enter Try.func75, Try.ntmps75
  go_wp2_with fail
  go_loopw [6, 12] (fun t6 t12 wr => ∃ (k : Nat), k ≤ cols.length ∧ t12 = .int .i64 k ∧ OwnI w.heap.size wr t6 (placesL (cols.take k) among) ∧ (∀ i (hi : i < cols.length), i < k → 0 ≤ placeI among cols[i]) ∧ Below w.heap.size w wr) (fun _ t12 _ => cols.length - (intOf t12).toNat)
  case atStart => exact ⟨0, Nat.zero_le _, rfl, Own.nil _ _ _ _ _, fun i _ h => absurd h (Nat.not_lt_zero _), Below.refl _ _⟩
  case round =>
    obtain ⟨k, hk, rfl, hown, hpl, hB⟩ := hrel
    obtain ⟨wo, ewo⟩ : ∃ x, x = wr := ⟨_, rfl⟩
    subst ewo
    have Hown := Lib.hid hown
    have Hpl := Lib.hid hpl
    have HB := Lib.hid hB
    have hz := hB.size
    have kk0 : (0 : Int) ≤ (k : Int) := by omega
    obtain ⟨po, cap, hpo⟩ := Own.slice hown
    clear hown hpl hB
    have Hkl : Hid ((placesL (cols.take k) among).length = k) := Lib.hid <| by unfold placesL; rw [List.length_map, List.length_take]; omega
    by_cases hlt : k < cols.length
    · have kkl : (k : Int) < (cols.length : Int) := by omega
      obtain ⟨b, o, rfl, hb, hat⟩ := Strs.at (Sl.below Ho.out Strs.loc HB.out hhi) (by omega) (by omega)
      have g0 := hat k hlt wo (Below.refl _ _)
      have Hst : Hid (placesL (cols.take (k + 1)) among = placesL (cols.take k) among ++ [placeI among cols[k]]) := Lib.hid (by unfold placesL; rw [List.take_succ_eq_append_getElem hlt, List.map_append]; rfl)
      have hp1 := placeI_lt among cols[k]
      have ham := (Sl.below Ha.out Strs.loc HB.out hhi2).len
      by_cases hneg : placeI among cols[k] < 0
      · have hr := Hno.out (within_no hlt hneg) wo HB.out
        clear hat Hst
        generalize cols[k] = c at *
        subst hpo
        go_wp2_with fail
        refine Index_any lo2 hi2 among c _ wo (Sl.below Ha.out Strs.loc HB.out hhi2) _ ?_
        generalize placeI among c = pc at *
        go_wp2_with fail
        first | exact hr | exact fin hr rfl
      · have hnn : ∀ i (hi : i < cols.length), i < k + 1 → 0 ≤ placeI among cols[i] := fun i hi h => by
          by_cases e : i = k
          · subst e; omega
          · exact Hpl.out i hi (by omega)
        have Hnn := Lib.hid hnn
        obtain ⟨v3, w3, hr3, ho3, ha3⟩ := appI1 Hown.out (placeI among cols[k]) rfl (by rw [Hkl.out]; omega) (by omega)
        have HO3 := Lib.hid ho3
        have HB3 := Lib.hid (HB.out.trans (ha3.below (B := w.heap.size) (by omega) (fun q e => (Own.lt Hown.out q e).1)))
        clear hat hnn ho3 ha3
        generalize cols[k] = c at *
        subst hpo
        go_wp2_with fail
        refine Index_any lo2 hi2 among c _ wo (Sl.below Ha.out Strs.loc HB.out hhi2) _ ?_
        generalize placeI among c = pc at *
        go_wp2_with (at_builtin; refine AtApp.of ?_)
        refine AtApp.go hr3 rfl rfl rfl rfl ?_
        go_wp2_with fail
        go_roundw
        case rel => exact ⟨k + 1, by omega, by go_num, by rw [Hst.out]; exact HO3.out, Hnn.out, HB3.out⟩
        case measure => simp [intOf]; omega
    · obtain rfl : k = cols.length := by omega
      have hO := Hown.out
      rw [List.take_length] at hO
      have hr := Hyes.out (within_yes fun i hi => Hpl.out i hi hi) wo _ HB.out hO
      clear hO
      subst hpo
      go_wp2_with fail
      first | exact hr | exact fin hr rfl
set_option maxRecDepth 100000 in
set_option maxHeartbeats 2000000 in
theorem pick_any (lo hi lo2 hi2 : Nat) (x : List V) (at' : List Int) (vx va : Value) (w : World) (hx : Row1 lo hi w vx x) (hhi : hi ≤ w.heap.size) (ha : Ints lo2 hi2 w va at') (hhi2 : hi2 ≤ w.heap.size) (hok : AtOk x.length at') (hlen : at'.length ≤ 1000000000000) (R : Ending → World → Prop)
    (hR : ∀ w' v', Below w.heap.size w w' → OwnV w.heap.size w' v' (pickL x at') → R (.returned v') w') : Calls Try.prog 77 #[vx, va] w R := by
  have HR := Lib.hid hR
  have Hx := Lib.hid hx
  have Ha := Lib.hid ha
  have Hok := Lib.hid hok
  obtain ⟨ax, cx, rfl, -, -, -, -⟩ := hx.form
  obtain ⟨aa, ca, rfl, -, -, -, -⟩ := ha.form
  have hxl := hx.len
  clear hR hx ha hok
  go_enter Try.func77, Try.ntmps77
  go_wp2_with fail
  go_loopw [5, 10] (fun t5 t10 wr => ∃ (k : Nat), k ≤ at'.length ∧ t10 = .int .i64 k ∧ OwnV w.heap.size wr t5 (pickL x (at'.take k)) ∧ Below w.heap.size w wr) (fun _ t10 _ => at'.length - (intOf t10).toNat)
  case atStart => exact ⟨0, Nat.zero_le _, rfl, Own.nil _ _ _ _ _, Below.refl _ _⟩
  case round =>
    obtain ⟨k, hk, rfl, hown, hB⟩ := hrel
    obtain ⟨wo, ewo⟩ : ∃ x, x = wr := ⟨_, rfl⟩
    subst ewo
    have Hown := Lib.hid hown
    have HB := Lib.hid hB
    have hz := hB.size
    have kk0 : (0 : Int) ≤ (k : Int) := by omega
    obtain ⟨po, cap, hpo⟩ := Own.slice hown
    clear hown hB
    have Hkl : Hid ((pickL x (at'.take k)).length = k) := Lib.hid <| by unfold pickL; rw [List.length_map, List.length_take]; omega
    by_cases hlt : k < at'.length
    · have kkl : (k : Int) < (at'.length : Int) := by omega
      obtain ⟨b, o, rfl, hb, hat⟩ := Ints.at (Sl.below Ha.out Ints.loc HB.out hhi2) (by omega) (by omega)
      have g0 := hat k hlt wo (Below.refl _ _)
      obtain ⟨q, hq⟩ : ∃ q : Nat, at'[k] = q := ⟨at'[k].toNat, by have := Hok.out _ (List.getElem_mem hlt); omega⟩
      have hqx : q < x.length := by have := (Hok.out _ (List.getElem_mem hlt)).2; omega
      have Hst : Hid (pickL x (at'.take (k + 1)) = pickL x (at'.take k) ++ [x[q]]) := Lib.hid (by
        unfold pickL
        rw [List.take_succ_eq_append_getElem hlt, List.map_append, List.map_cons, List.map_nil, hq, Int.toNat_natCast]
        congr 2
        exact getDS x _ q hqx)
      obtain ⟨b2, o2, rfl, hb2, hat2⟩ := Row1.at (Sl.below Hx.out Row1.loc HB.out hhi) (by omega) (by omega)
      obtain ⟨z0, z1, z2⟩ := (hat2 q hqx wo (Below.refl _ _)).c3
      have qq0 : (0 : Int) ≤ (q : Int) := by omega
      have qql : (q : Int) < (x.length : Int) := by omega
      rw [hq] at g0
      clear hq hat hat2
      generalize x[q] = y at *
      obtain ⟨v3, w3, hr3, ho3, ha3⟩ := appV1 Hown.out y rfl (by rw [Hkl.out]; omega) (by omega)
      have HO3 := Lib.hid ho3
      have HB3 := Lib.hid (HB.out.trans (ha3.below (B := w.heap.size) (by omega) (fun q e => (Own.lt Hown.out q e).1)))
      clear ho3 ha3
      subst hpo
      go_wp2_with (at_builtin; refine AtApp.of ?_)
      refine AtApp.go hr3 rfl rfl rfl rfl ?_
      go_wp2_with fail
      go_roundw
      case rel => exact ⟨k + 1, by omega, by go_num, by rw [Hst.out]; exact HO3.out, HB3.out⟩
      case measure => simp [intOf]; omega
    · obtain rfl : k = at'.length := by omega
      have hO := Hown.out
      rw [List.take_length] at hO
      have hr := HR.out wo _ HB.out hO
      clear hO
      subst hpo
      go_wp2_with fail
      first | exact hr | exact fin hr rfl
set_option maxRecDepth 100000 in
set_option maxHeartbeats 2000000 in
theorem within_any (lo hi lo2 hi2 : Nat) (cols among : List S) (vo va : Value) (w : World) (ho : Strs lo hi w vo cols) (ha : Strs lo2 hi2 w va among) (R : Ending → World → Prop)
    (hR : R (.returned (.bool (withinB cols among))) w) : Calls Try.prog 78 #[vo, va] w R := by
  have HR := Lib.hid hR
  have Ho := Lib.hid ho
  have Ha := Lib.hid ha
  obtain ⟨ao, co, rfl, -, -, -, hof⟩ := ho.form
  obtain ⟨aa, ca, rfl, -, -, -, -⟩ := ha.form
  have hol := ho.len
  clear hR ho ha
  go_enter Try.func78, Try.ntmps78
  go_wp2_with fail
  go_loopw [5] (fun t5 wr => ∃ (k : Nat), k ≤ cols.length ∧ t5 = .int .i64 k ∧ (∀ i (hi : i < cols.length), i < k → 0 ≤ placeI among cols[i]) ∧ wr = w) (fun t5 _ => cols.length - (intOf t5).toNat)
  case atStart => exact ⟨0, Nat.zero_le _, rfl, fun i _ h => absurd h (Nat.not_lt_zero _), rfl⟩
  case round =>
    obtain ⟨k, hk, rfl, hpl, rfl⟩ := hrel
    have Hpl := Lib.hid hpl
    have kk0 : (0 : Int) ≤ (k : Int) := by omega
    clear hpl
    by_cases hlt : k < cols.length
    · have kkl : (k : Int) < (cols.length : Int) := by omega
      obtain ⟨b, off, rfl, hb1, hb2, hcc⟩ := hof k hlt
      obtain ⟨cs, _, hcs, rfl⟩ := hcc k hlt
      have g0 := hcs.c1
      rw [Nat.mul_one] at g0
      have hp1 := placeI_lt among cols[k]
      have ham := Ha.out.len
      by_cases hneg : placeI among cols[k] < 0
      · have hr := HR.out
        rw [within_no hlt hneg] at hr
        clear hcs hcc hof
        generalize cols[k] = c at *
        go_wp2_with fail
        refine place_any lo2 hi2 among c _ _ Ha.out _ ?_
        generalize placeI among c = pc at *
        go_wp2_with fail
        first | exact hr | exact fin hr rfl
      · have hnn : ∀ i (hi : i < cols.length), i < k + 1 → 0 ≤ placeI among cols[i] := fun i hi h => by
          by_cases e : i = k
          · subst e; omega
          · exact Hpl.out i hi (by omega)
        have Hnn := Lib.hid hnn
        clear hcs hcc hof hnn
        generalize cols[k] = c at *
        go_wp2_with fail
        refine place_any lo2 hi2 among c _ _ Ha.out _ ?_
        generalize placeI among c = pc at *
        go_wp2_with fail
        go_roundw
        case rel => exact ⟨k + 1, by omega, by go_num, Hnn.out, trivial⟩
        case measure => simp [intOf]; omega
    · obtain rfl : k = cols.length := by omega
      have llt : ¬ ((cols.length : Nat) : Int) < (cols.length : Int) := by omega
      have hr := HR.out
      rw [within_yes fun i hi => Hpl.out i hi hi] at hr
      go_wp2_with fail
      first | exact hr | exact fin hr rfl
set_option maxRecDepth 100000 in
set_option maxHeartbeats 2000000 in
theorem refPick_any (lo hi lo2 hi2 lo3 hi3 : Nat) (x : List V) (cols among : List S) (vx vo va : Value) (w : World) (hx : Row1 lo hi w vx x) (hhi : hi ≤ w.heap.size) (ho : Strs lo2 hi2 w vo cols) (hhi2 : hi2 ≤ w.heap.size) (ha : Strs lo3 hi3 w va among) (hhi3 : hi3 ≤ w.heap.size) (hw : withinB cols among = true) (hxl : x.length = among.length) (hlen : cols.length ≤ 1000000000000) (R : Ending → World → Prop)
    (hR : ∀ w' v', Below w.heap.size w w' → OwnV w.heap.size w' v' (pickL x (placesL cols among)) → R (.returned v') w') : Calls Try.prog 79 #[vx, vo, va] w R := by
  have HR := Lib.hid hR
  have Hx := Lib.hid hx
  have Ho := Lib.hid ho
  have Ha := Lib.hid ha
  have Hok := Lib.hid (places_ok hw)
  have Hxl : Hid (x.length = among.length) := Lib.hid hxl
  obtain ⟨ax, cx, rfl, -, -, -, -⟩ := hx.form
  obtain ⟨ao, co, rfl, -, -, -, -⟩ := ho.form
  obtain ⟨aa, ca, rfl, -, -, -, -⟩ := ha.form
  have hxl2 := hx.len
  have hol := ho.len
  clear hR hx ho ha hxl
  go_enter Try.func79, Try.ntmps79
  go_wp2_with fail
  go_loopw [7, 8] (fun t7 t8 wr => ∃ (k : Nat), k ≤ cols.length ∧ t8 = .int .i64 k ∧ OwnV w.heap.size wr t7 (pickL x (placesL (cols.take k) among)) ∧ Below w.heap.size w wr) (fun _ t8 _ => cols.length - (intOf t8).toNat)
  case atStart => exact ⟨0, Nat.zero_le _, rfl, Own.nil _ _ _ _ _, Below.refl _ _⟩
  case round =>
    obtain ⟨k, hk, rfl, hown, hB⟩ := hrel
    obtain ⟨wo, ewo⟩ : ∃ x, x = wr := ⟨_, rfl⟩
    subst ewo
    have Hown := Lib.hid hown
    have HB := Lib.hid hB
    have hz := hB.size
    have kk0 : (0 : Int) ≤ (k : Int) := by omega
    obtain ⟨po, cap, hpo⟩ := Own.slice hown
    clear hown hB
    have Hkl : Hid ((pickL x (placesL (cols.take k) among)).length = k) := Lib.hid <| by unfold pickL placesL; rw [List.length_map, List.length_map, List.length_take]; omega
    by_cases hlt : k < cols.length
    · have kkl : (k : Int) < (cols.length : Int) := by omega
      obtain ⟨b, o, rfl, hb, hat⟩ := Strs.at (Sl.below Ho.out Strs.loc HB.out hhi2) (by omega) (by omega)
      have g0 := hat k hlt wo (Below.refl _ _)
      have hmem : placeI among cols[k] ∈ placesL cols among := List.mem_map.2 ⟨_, List.getElem_mem hlt, rfl⟩
      obtain ⟨q, hq⟩ : ∃ q : Nat, placeI among cols[k] = q := ⟨(placeI among cols[k]).toNat, by have := Hok.out _ hmem; omega⟩
      have hqx : q < x.length := by have := (Hok.out _ hmem).2; rw [Hxl.out]; omega
      have Hst : Hid (pickL x (placesL (cols.take (k + 1)) among) = pickL x (placesL (cols.take k) among) ++ [x[q]]) := Lib.hid (by
        unfold pickL placesL
        rw [List.take_succ_eq_append_getElem hlt, List.map_append, List.map_append, List.map_cons, List.map_cons, List.map_nil, List.map_nil, hq, Int.toNat_natCast]
        congr 2
        exact getDS x _ q hqx)
      obtain ⟨b2, o2, rfl, hb2, hat2⟩ := Row1.at (Sl.below Hx.out Row1.loc HB.out hhi) (by omega) (by omega)
      obtain ⟨z0, z1, z2⟩ := (hat2 q hqx wo (Below.refl _ _)).c3
      have qq0 : (0 : Int) ≤ (q : Int) := by omega
      have qql : (q : Int) < (x.length : Int) := by omega
      have Hq : Hid (placeI among cols[k] = q) := Lib.hid hq
      clear hq hat hat2 hmem
      generalize x[q] = y at *
      generalize cols[k] = c at *
      obtain ⟨v3, w3, hr3, ho3, ha3⟩ := appV1 Hown.out y rfl (by rw [Hkl.out]; omega) (by omega)
      have HO3 := Lib.hid ho3
      have HB3 := Lib.hid (HB.out.trans (ha3.below (B := w.heap.size) (by omega) (fun q e => (Own.lt Hown.out q e).1)))
      clear ho3 ha3
      subst hpo
      go_wp2_with fail
      refine place_any lo3 hi3 among c _ wo (Sl.below Ha.out Strs.loc HB.out hhi3) _ ?_
      rw [Hq.out]
      go_wp2_with (at_builtin; refine AtApp.of ?_)
      refine AtApp.go hr3 rfl rfl rfl rfl ?_
      go_wp2_with fail
      go_roundw
      case rel => exact ⟨k + 1, by omega, by go_num, by rw [Hst.out]; exact HO3.out, HB3.out⟩
      case measure => simp [intOf]; omega
    · obtain rfl : k = cols.length := by omega
      have hO := Hown.out
      rw [List.take_length] at hO
      have hr := HR.out wo _ HB.out hO
      clear hO
      subst hpo
      go_wp2_with fail
      first | exact hr | exact fin hr rfl
end Go.Proofs.Ytpncblagjkbemaa
