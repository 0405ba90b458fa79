/- The walk of OrderBack. -/
import Derived.Test.YtomclldnoockcaaBackP
import Derived.Test.YtomclldnoockcaaReads
import Derived.Test.YtomclldnoockcaaAlive
namespace Go.Proofs.Ytomclldnoockcaa
open Go.RowKit

abbrev OwnBo := Own bo 4 1
theorem infoBo : (Try.prog.info? 4).map (fun i => (i.zero, i.size, i.bytes)) = some (some (.bool false), 1, 1) := by kernel_rfl
/-- One bool behind bools of the call's own. -/
theorem appBo1 {w : World} {lo : Nat} {v : Value} {xs : List Bool} (h : OwnBo lo w v xs) (x : Bool) {n : Nat} (hn : n = w.heap.size) (hb : xs.length ≤ 1000000000) (hlo : lo ≤ w.heap.size) :
    ∃ v' w', (Builtin.append_ #[43, 43] 43 #[v, .slice (some ⟨n, 0, none⟩) 1 1]).run Try.prog (w.alloc (.cells #[.bool x] 4)) = .ok v' w' ∧ OwnBo lo w' v' (xs ++ [x]) ∧ Appended w v w' v' := by
  subst hn
  have hB : Below w.heap.size w (w.alloc (.cells #[.bool x] 4)) := (Below.refl _ _).alloc (Nat.le_refl _) _
  obtain ⟨i0, hi, hz0, hz1, hz2⟩ := info_parts infoBo
  have hc := CellsAt.newAt w [.bool x] 4 rfl
  have hs : Src Try.prog 1 43 (.slice (some ⟨w.heap.size, 0, none⟩) 1 1) [x].length ([x].flatMap bo) (w.alloc (.cells #[.bool x] 4)) :=
    Src.ofSlice _ Try.underlying43 _ _ _ _ (by simp [bo]) (fun j u hu => by rw [Addr.add_lit]; exact hc j u (by simpa [bo] using hu)) (fun u hu => by simp [bo] at hu; subst hu; rfl)
  obtain ⟨v', w', hr, ho, ha⟩ := (Own.kept h hB).app _ _ _ i0 _ 1 Try.underlying43 hi hz0 hz1 hz2 rfl hs (by simp only [List.length_cons, List.length_nil]; omega) (by omega) (Nat.le_trans hlo hB.size)
  exact ⟨v', w', hr, ho, (Appended.step v hB).trans ha⟩
theorem OwnBo.bools {lo : Nat} {w w' : World} {v : Value} {xs : List Bool} (h : OwnBo lo w v xs) (hB : Below w.heap.size w w') : Bools 0 w'.heap.size w' v xs :=
  (Sl.below (Sl.ofOwn (enc := bo) (size := 1) (fun _ => rfl) h : Bools lo w.heap.size w v xs) (flat_loc _) hB (Nat.le_refl _)).mono (flat_loc _) (Nat.zero_le _) hB.size

set_option maxRecDepth 100000 in
set_option maxHeartbeats 4000000 in
theorem kinds_any (lo hi : Nat) (l : List Pt) (v : Value) (w : World) (hv : Pts lo hi w v l) (hhi : hi ≤ w.heap.size) (hll : l.length ≤ 1000000) (R : Ending → World → Prop)
    (hR : ∀ w' v', Below w.heap.size w w' → OwnBo w.heap.size w' v' (l.map (·.is)) → R (.returned v') w') : Calls Try.prog 25 #[v] w R := by
  obtain ⟨ao, cap, rfl, hl1, hl2, -, hc⟩ := hv.form
  have Hc := Lib.hid hc
  have HR := Lib.hid hR
  clear hc hR
  go_enter Try.func25, Try.ntmps25
  go_wp2_with fail
  go_loopw [3, 4] (fun t3 t4 wr => ∃ k : Nat, k ≤ l.length ∧ t4 = .int .i64 k ∧ Below w.heap.size w wr ∧ OwnBo w.heap.size wr t3 ((l.take k).map (·.is))) (fun _ t4 _ => l.length - (intOf t4).toNat)
  case atStart => exact ⟨0, Nat.zero_le _, rfl, Below.refl _ _, Own.nil _ _ _ _ _⟩
  case round =>
    obtain ⟨k, hk, rfl, hB, ho⟩ := hrel
    have Ho := Lib.hid ho
    have hsz := hB.size
    clear ho
    by_cases hlt : k < l.length
    · obtain ⟨b, off, rfl, hb1, hb2, hcc⟩ := Hc.out k hlt
      obtain ⟨cs, -, hcs, he⟩ := hcc k hlt
      subst he
      obtain ⟨c0, -⟩ := (hcs.agree (.below hB hhi) hb1 hb2).c5
      have Hs : Hid ((l.take (k + 1)).map (·.is) = (l.take k).map (·.is) ++ [l[k].is]) := by
        show (l.take (k + 1)).map (·.is) = _
        rw [List.take_succ_eq_append_getElem hlt, List.map_append]; rfl
      have hol : ((l.take k).map (·.is)).length ≤ 1000000000 := by rw [List.length_map, List.length_take]; omega
      clear hcs hcc
      generalize l[k].is = x at *
      go_wp2_with (at_builtin; refine AtApp.of ?_)
      obtain ⟨v4, w4, hr, ho4, ha4⟩ := appBo1 Ho.out x rfl hol hsz
      refine AtApp.go hr rfl rfl rfl rfl ?_
      have Ho4 := Lib.hid ho4
      have hB4 := hB.trans (ha4.below hsz (fun k e => (Own.lt Ho.out k e).1))
      clear hr ho4 ha4
      go_wp2_with fail
      go_roundw
      case rel => exact ⟨k + 1, by omega, by go_num, hB4, by rw [Hs.out]; exact Ho4.out⟩
      case measure => simp [intOf]; omega
    · have ho := Ho.out
      rw [List.take_of_length_le (by omega)] at ho
      have hr := HR.out wr _ hB ho
      clear ho
      go_wp2_with fail
      first | exact hr | exact fin hr rfl

set_option maxRecDepth 100000 in
set_option maxHeartbeats 4000000 in
theorem clean_any (lo hi : Nat) (l : List Pt) (v : Value) (w : World) (hv : Pts lo hi w v l) (hhi : hi ≤ w.heap.size) (hll : l.length ≤ 1000000) (R : Ending → World → Prop)
    (hR : ∀ w' v', Below w.heap.size w w' → OwnP w.heap.size w' v' (l.map cleanP) → R (.returned v') w') : Calls Try.prog 26 #[v] w R := by
  obtain ⟨ao, cap, rfl, hl1, hl2, -, hc⟩ := hv.form
  have Hc := Lib.hid hc
  have HR := Lib.hid hR
  clear hc hR
  go_enter Try.func26, Try.ntmps26
  go_wp2_with fail
  go_loopw [3, 4] (fun t3 t4 wr => ∃ k : Nat, k ≤ l.length ∧ t4 = .int .i64 k ∧ Below w.heap.size w wr ∧ OwnP w.heap.size wr t3 ((l.take k).map cleanP)) (fun _ t4 _ => l.length - (intOf t4).toNat)
  case atStart => exact ⟨0, Nat.zero_le _, rfl, Below.refl _ _, Own.nil _ _ _ _ _⟩
  case round =>
    obtain ⟨k, hk, rfl, hB, ho⟩ := hrel
    have Ho := Lib.hid ho
    have hsz := hB.size
    clear ho
    by_cases hlt : k < l.length
    · obtain ⟨b, off, rfl, hb1, hb2, hcc⟩ := Hc.out k hlt
      obtain ⟨cs, -, hcs, he⟩ := hcc k hlt
      subst he
      obtain ⟨c0, c1, c2, c3, c4⟩ := (hcs.agree (.below hB hhi) hb1 hb2).c5
      have Hs : Hid ((l.take (k + 1)).map cleanP = (l.take k).map cleanP ++ [cleanP l[k]]) := by
        show (l.take (k + 1)).map cleanP = _
        rw [List.take_succ_eq_append_getElem hlt, List.map_append]; rfl
      have hol : ((l.take k).map cleanP).length ≤ 1000000000 := by rw [List.length_map, List.length_take]; omega
      clear hcs hcc
      generalize l[k] = x at *
      cases hx : x.is with
      | true =>
        rw [hx] at c0
        have He : Hid (cleanP x = ⟨true, 0, x.v⟩) := by simp [Hid, cleanP, hx]
        clear hx
        go_wp2_with (at_builtin; refine AtApp.of ?_)
        obtain ⟨v4, w4, hr, ho4, ha4⟩ := appP1 Ho.out ⟨true, 0, x.v⟩ (n := wr.heap.size) rfl hol hsz
        refine AtApp.go hr rfl rfl rfl rfl ?_
        have Ho4 := Lib.hid ho4
        have hB4 := hB.trans (ha4.below hsz (fun k e => (Own.lt Ho.out k e).1))
        clear hr ho4 ha4
        go_wp2_with fail
        go_roundw
        case rel => exact ⟨k + 1, by omega, by go_num, hB4, by rw [Hs.out, He.out]; exact Ho4.out⟩
        case measure => simp [intOf]; omega
      | false =>
        rw [hx] at c0
        have He : Hid (cleanP x = ⟨false, x.n, ⟨0, 0, []⟩⟩) := by simp [Hid, cleanP, hx]
        clear hx
        go_wp2_with (at_builtin; refine AtApp.of ?_)
        obtain ⟨v4, w4, hr, ho4, ha4⟩ := appP1 Ho.out ⟨false, x.n, ⟨0, 0, []⟩⟩ (n := wr.heap.size) rfl hol hsz
        refine AtApp.go hr rfl rfl rfl rfl ?_
        have Ho4 := Lib.hid ho4
        have hB4 := hB.trans (ha4.below hsz (fun k e => (Own.lt Ho.out k e).1))
        clear hr ho4 ha4
        go_wp2_with fail
        go_roundw
        case rel => exact ⟨k + 1, by omega, by go_num, hB4, by rw [Hs.out, He.out]; exact Ho4.out⟩
        case measure => simp [intOf]; omega
    · have ho := Ho.out
      rw [List.take_of_length_le (by omega)] at ho
      have hr := HR.out wr _ hB ho
      clear ho
      go_wp2_with fail
      first | exact hr | exact fin hr rfl
def readB (ks : List Bool) (b : List UInt8) : List Pt := (readK ks b).getD []
def readE (ks : List Bool) (b : List UInt8) : Int := if (readK ks b).isSome then 0 else 20
theorem Read_b (hi : Nat) (b : List UInt8) (kinds : List Bool) (bv kv : Value) (w : World) (hb : Bytes 0 hi w bv b) (hk : Bools 0 hi w kv kinds) (hhi : hi ≤ w.heap.size) (hbl : b.length ≤ 100000000) (hkl : kinds.length ≤ 100000000) (R : Ending → World → Prop)
    (hR : ∀ w' v, Below w.heap.size w w' → OwnP w.heap.size w' v (readB kinds b) → R (.returned (.tuple #[v, .int .i64 (readE kinds b)])) w') : Calls Try.prog 20 #[bv, kv] w R :=
  Read_any hi b kinds bv kv w hb hk hhi hbl hkl R (fun l h w' v hB ho => fin (hR w' v hB (by rw [readB, h]; exact ho)) (by rw [readE, h]; rfl))
    (fun h w' hB => fin (hR w' (.slice none 0 0) hB (by rw [readB, h]; exact Own.nil _ _ _ _ _)) (by rw [readE, h]; rfl))
theorem oneV_sum {b r : List UInt8} {v : V} (h : oneV b = some (v, r)) : v.s.length + r.length ≤ b.length := by
  obtain ⟨hm, e⟩ := encV_oneV b v r h
  obtain ⟨-, -, f2, -, f5⟩ := mayB_facts hm
  have hE : ∀ s : List UInt8, s.length ≤ (esc s).length := by
    intro s
    induction s with
    | nil => simp
    | cons c s ih =>
      rw [esc_cons, List.length_append, List.length_cons]
      have : 1 ≤ (esc1 c).length := by unfold esc1; split <;> simp
      omega
  have hb : v.s.length ≤ (body v).length := by
    unfold body
    split
    · rename_i e; rw [(f2 e).1]; simp
    · split
      · exact hE v.s
      · rename_i h2 h3
        obtain ⟨g1, g2⟩ := mayB_kind hm
        rw [f5 (by omega)]; simp
  rw [e, List.length_append]
  have : (encV v).length = (body v).length + 1 := rfl
  omega
theorem readK_sum : ∀ (ks : List Bool) (b : List UInt8) (l : List Pt), readK ks b = some l → sumP l ≤ 10 * ks.length + b.length
  | [], b, l, h => by
    simp only [readK] at h
    split at h
    · cases h; simp [sumP]
    · cases h
  | true :: ks, b, l, h => by
    simp only [readK] at h
    cases ho : oneV b with
    | none => rw [ho] at h; cases h
    | some x =>
      obtain ⟨v, r⟩ := x
      rw [ho] at h
      simp only [Option.map_eq_some_iff] at h
      obtain ⟨m, hm, rfl⟩ := h
      have := readK_sum ks r m hm
      have := oneV_sum ho
      simp only [sumP, List.length_cons]; omega
  | false :: ks, b, l, h => by
    simp only [readK] at h
    split at h
    · cases h
    · simp only [Option.map_eq_some_iff] at h
      obtain ⟨m, hm, rfl⟩ := h
      have := readK_sum ks (b.drop 8) m hm
      rw [List.length_drop] at this
      simp only [sumP, List.length_cons, List.length_nil]; omega

set_option maxRecDepth 100000 in
set_option maxHeartbeats 8000000 in
theorem OrderBack_any (hi : Nat) (l : List Pt) (b : List UInt8) (ks : List Bool) (lv bv kv : Value) (w : World) (hl : Pts 0 hi w lv l) (hb : Bytes 0 hi w bv b) (hk : Bools 0 hi w kv ks) (hhi : hi ≤ w.heap.size) (hsl : sumP l ≤ 100000000) (rl : ∀ p ∈ l, PtR p)
    (R : Ending → World → Prop) (hR : ∀ w', Below w.heap.size w w' → R (.returned (.bool true)) w') : Calls Try.prog 7 #[lv, bv, kv] w R := by
  have Hl := Lib.hid hl
  have Hb := Lib.hid hb
  have Hk := Lib.hid hk
  have HR := Lib.hid hR
  have Hrl := Lib.hid rl
  obtain ⟨ao, cap, rfl, h1, h2, -, -⟩ := hl.form
  obtain ⟨ao2, cap2, rfl, h3, h4, -, -⟩ := hb.form
  obtain ⟨ao3, cap3, rfl, h5, h6, -, -⟩ := hk.form
  clear hl hb hk hR rl
  go_enter Try.func7, Try.ntmps7
  go_wp2_with fail
  refine alive_any _ _ fun w1 hB1 => ?_
  have hr1 := HR.out w1 hB1
  go_wp2_with fail
  refine great_any 0 hi l _ _ (Sl.below Hl.out (flat_loc _) hB1 hhi) hsl _ ?_
  by_cases ga : 5000 < sumP l
  · rw [decide_eq_true ga]
    go_wp2_with fail
    all_goals first | exact hr1 | exact fin hr1 rfl
  rw [decide_eq_false ga]
  by_cases gb : 5000 < b.length
  · go_wp2_with fail
    all_goals first | exact hr1 | exact fin hr1 rfl
  by_cases gk : 100 < ks.length
  · go_wp2_with fail
    all_goals first | exact hr1 | exact fin hr1 rfl
  have hll := sumP_length l
  have hsum : sumP (readB ks b) ≤ 10 * ks.length + b.length := by
    unfold readB
    cases h : readK ks b with
    | none => simp [sumP]
    | some y => exact readK_sum ks b y h
  have Hsum := Lib.hid hsum
  clear hr1 hsum
  go_wp2_with fail
  refine Key_b 0 hi l _ w1 (Sl.below Hl.out (flat_loc _) hB1 hhi) (Nat.le_trans hhi hB1.size) (by omega) _ fun w2 t8 hB2 ho2 => ?_
  have hBw2 := hB1.trans (hB2.mono hB1.size)
  have Ho2 := Lib.hid ho2
  clear ho2
  go_wp2_with fail
  refine kinds_any 0 hi l _ w2 (Sl.below Hl.out (flat_loc _) hBw2 hhi) (Nat.le_trans hhi hBw2.size) (by omega) _ fun w3 t42 hB3 ho3 => ?_
  have hBw3 := hBw2.trans (hB3.mono hBw2.size)
  have Ho3 := Lib.hid ho3
  have hkb : (keyB l).length ≤ 100000000 := by
    unfold keyB
    split
    · have := encK_length l; omega
    · simp
  clear ho3
  go_wp2_with fail
  refine Read_b w3.heap.size (keyB l) (l.map (·.is)) _ _ w3 (OwnB.later Ho2.out hB3) (OwnBo.bools Ho3.out (Below.refl _ _)) (Nat.le_refl _) hkb (by rw [List.length_map]; omega) _ fun w4 t10 hB4 ho4 => ?_
  have hBw4 := hBw3.trans (hB4.mono hBw3.size)
  have Ho4 := Lib.hid ho4
  clear ho4 hkb
  cases hoa : l.all Pt.ok with
  | false =>
    have e8 : keyE l = 10 := by simp [keyE, hoa]
    rw [e8]
    clear e8 hoa Ho4 Ho2 Ho3
    go_wp2_with fail
    refine Read_b hi b ks _ _ w4 (Sl.below Hb.out (flat_loc _) hBw4 hhi) (Sl.below Hk.out (flat_loc _) hBw4 hhi) (Nat.le_trans hhi (Below.size hBw4)) (by omega) (by omega) _ fun w6 t12 hB6 ho6 => ?_
    have hBw6 := Below.trans hBw4 (hB6.mono (Below.size hBw4))
    have Ho6 := Lib.hid ho6
    clear ho6
    go_wp2_with fail
    refine Key_b 0 w6.heap.size (readB ks b) _ w6 (OwnP.parts Ho6.out (Below.refl _ _)) (Nat.le_refl _) (by have := Hsum.out; omega) _ fun w7 t14 hB7 ho7 => ?_
    have hBw7 := hBw6.trans (hB7.mono hBw6.size)
    have hr := HR.out w7 hBw7
    cases hrk : readK ks b with
    | none =>
      have e1 : readE ks b = 20 := by simp [readE, hrk]
      rw [e1]
      clear hrk e1 ho7
      go_wp2_with fail
      all_goals first | exact hr | exact fin hr rfl
    | some y =>
      have e1 : readE ks b = 0 := by simp [readE, hrk]
      have e2 : readB ks b = y := by simp [readB, hrk]
      obtain ⟨k1, k2⟩ := encK_readK ks b y hrk
      have e3 : keyE (readB ks b) = 0 := by rw [e2]; simp [keyE, k1]
      have e4 : keyB (readB ks b) = b := by rw [e2]; simp [keyB, k1, k2]
      rw [e4] at ho7
      rw [e1, e3]
      have s14 := str (OwnB.later ho7 (Below.refl _ _))
      have s1 := str (Sl.below Hb.out (flat_loc _) hBw7 hhi)
      clear hrk e1 e2 e3 e4 k1 k2 ho7
      go_wp2_with fail
      all_goals first | exact hr | exact fin hr rfl
  | true =>
    have e8 : keyE l = 0 := by simp [keyE, hoa]
    have e7 : keyB l = encK l := by simp [keyB, hoa]
    have erk := readK_encK l Hrl.out hoa
    have e11 : readE (l.map (·.is)) (keyB l) = 0 := by rw [e7]; simp [readE, erk]
    have e10 : readB (l.map (·.is)) (keyB l) = l.map cleanP := by rw [e7]; simp [readB, erk]
    have ho4 := Ho4.out
    rw [e10] at ho4
    rw [e8, e11]
    have Ho4' := Lib.hid ho4
    clear e8 e7 erk e11 e10 ho4 hoa Ho4 Ho2 Ho3
    go_wp2_with fail
    refine clean_any 0 hi l _ w4 (Sl.below Hl.out (flat_loc _) hBw4 hhi) (Nat.le_trans hhi hBw4.size) (by omega) _ fun w5 t54 hB5 ho5 => ?_
    have hBw5 := hBw4.trans (hB5.mono hBw4.size)
    have Ho5 := Lib.hid ho5
    clear ho5
    go_wp2_with fail
    refine Same_any 0 w5.heap.size (l.map cleanP) _ _ w5 (OwnP.parts Ho4'.out hB5) (OwnP.parts Ho5.out (Below.refl _ _)) (Nat.le_refl _) _ fun w8 hB8 => ?_
    have hBw8 := hBw5.trans (hB8.mono hBw5.size)
    clear Ho4' Ho5
    go_wp2_with fail
    refine Read_b hi b ks _ _ w8 (Sl.below Hb.out (flat_loc _) hBw8 hhi) (Sl.below Hk.out (flat_loc _) hBw8 hhi) (Nat.le_trans hhi (Below.size hBw8)) (by omega) (by omega) _ fun w6 t12 hB6 ho6 => ?_
    have hBw6 := Below.trans hBw8 (hB6.mono (Below.size hBw8))
    have Ho6 := Lib.hid ho6
    clear ho6
    go_wp2_with fail
    refine Key_b 0 w6.heap.size (readB ks b) _ w6 (OwnP.parts Ho6.out (Below.refl _ _)) (Nat.le_refl _) (by have := Hsum.out; omega) _ fun w7 t14 hB7 ho7 => ?_
    have hBw7 := hBw6.trans (hB7.mono hBw6.size)
    have hr := HR.out w7 hBw7
    cases hrk : readK ks b with
    | none =>
      have e1 : readE ks b = 20 := by simp [readE, hrk]
      rw [e1]
      clear hrk e1 ho7
      go_wp2_with fail
      all_goals first | exact hr | exact fin hr rfl
    | some y =>
      have e1 : readE ks b = 0 := by simp [readE, hrk]
      have e2 : readB ks b = y := by simp [readB, hrk]
      obtain ⟨k1, k2⟩ := encK_readK ks b y hrk
      have e3 : keyE (readB ks b) = 0 := by rw [e2]; simp [keyE, k1]
      have e4 : keyB (readB ks b) = b := by rw [e2]; simp [keyB, k1, k2]
      rw [e4] at ho7
      rw [e1, e3]
      have s14 := str (OwnB.later ho7 (Below.refl _ _))
      have s1 := str (Sl.below Hb.out (flat_loc _) hBw7 hhi)
      clear hrk e1 e2 e3 e4 k1 k2 ho7
      go_wp2_with fail
      all_goals first | exact hr | exact fin hr rfl
end Go.Proofs.Ytomclldnoockcaa
