/- The walks of package value, of cmp and strings as it calls them, and of the document's answer for values. -/
import Derived.Test.YtkcpanaojehgiaaProg
import Derived.Test.YtkcpanaojehgiaaValueP
import Derived.StillTailTactics
namespace Go.Proofs.Ytkcpanaojehgiaa
open Go.RowKit

set_option maxRecDepth 100000 in
theorem isNaN_int (x : Int) (w : World) (R : Ending → World → Prop) (hR : R (.returned (.bool false)) w) : Calls Try.prog 93 #[.int .i64 x] w R := by
  go_enter Try.func93, Try.ntmps93
  go_wp2
  exact hR
set_option maxRecDepth 100000 in
theorem isNaN_int64 (x : Int) (w : World) (R : Ending → World → Prop) (hR : R (.returned (.bool false)) w) : Calls Try.prog 86 #[.int .i64 x] w R := by
  go_enter Try.func86, Try.ntmps86
  go_wp2
  exact hR

set_option maxRecDepth 100000 in
theorem cmp_int (x y : Int) (w : World) (R : Ending → World → Prop) (hR : R (.returned (.int .i64 (icmp x y))) w) : Calls Try.prog 87 #[.int .i64 x, .int .i64 y] w R := by
  go_enter Try.func87, Try.ntmps87
  go_wp2_with fail
  refine isNaN_int _ _ _ ?_
  go_wp2_with fail
  refine isNaN_int _ _ _ ?_
  go_wp2_with fail
  all_goals exact fin hR (by simp [icmp, *] <;> omega)
set_option maxRecDepth 100000 in
theorem cmp_int64 (x y : Int) (w : World) (R : Ending → World → Prop) (hR : R (.returned (.int .i64 (icmp x y))) w) : Calls Try.prog 80 #[.int .i64 x, .int .i64 y] w R := by
  go_enter Try.func80, Try.ntmps80
  go_wp2_with fail
  refine isNaN_int64 _ _ _ ?_
  go_wp2_with fail
  refine isNaN_int64 _ _ _ ?_
  go_wp2_with fail
  all_goals exact fin hR (by simp [icmp, *] <;> omega)

set_option maxRecDepth 100000 in
theorem CompareString (a b : List UInt8) (w : World) (R : Ending → World → Prop) (hR : R (.returned (.int .i64 (Lib.compareBytes a b))) w) : Calls Try.prog 94 #[.string ⟨a.toArray⟩, .string ⟨b.toArray⟩] w R := by
  go_enter Try.func94, Try.ntmps94
  go_wp2
  rw [run_callFunc_extern Try.func96 (by kernel_rfl) (by kernel_rfl) (by kernel_rfl) (e := Extern.BytealgCompare.compare) (by kernel_rfl), Lib.run_compareString]
  simp only [Result.andThen]
  rw [Oper.upon_value]
  go_wp2
  exact hR
set_option maxRecDepth 100000 in
theorem strings_Compare (a b : List UInt8) (w : World) (R : Ending → World → Prop) (hR : R (.returned (.int .i64 (Lib.compareBytes a b))) w) : Calls Try.prog 88 #[.string ⟨a.toArray⟩, .string ⟨b.toArray⟩] w R := by
  go_enter Try.func88, Try.ntmps88
  go_wp2_with fail
  refine CompareString _ _ _ _ ?_
  go_wp2
  exact hR

set_option maxRecDepth 100000 in
/-- cmp.Or of three. -/
theorem Or3 (g : Nat) (a b c : Int) (w : World) (h : CellsAt w g 0 [.int .i64 a, .int .i64 b, .int .i64 c]) (R : Ending → World → Prop) (hR : R (.returned (.int .i64 (or3 a b c))) w) :
    Calls Try.prog 79 #[.slice (some ⟨g, 0, none⟩) 3 3] w R := by
  obtain ⟨h0, h1, h2⟩ := h.c3
  clear h
  go_enter Try.func79, Try.ntmps79
  go_wp2
  go_loop [5, 8] (fun _ t8 => ∃ k : Nat, k ≤ 3 ∧ t8 = .int .i64 k ∧ (0 < k → a = 0) ∧ (1 < k → b = 0) ∧ (2 < k → c = 0)) (fun _ t8 => 3 - (intOf t8).toNat)
  case atStart => exact ⟨0, by omega, rfl, by omega, by omega, by omega⟩
  case round =>
    obtain ⟨k, hk, rfl, k1, k2, k3⟩ := hrel
    have H : Hid (or3 a b c = if a ≠ 0 then a else if b ≠ 0 then b else c) := rfl
    by_cases e0 : k = 0
    · subst e0
      clear k1 k2 k3
      go_wp2_with fail
      · exact fin hR (show Value.int _ _ = Value.int _ _ by rw [H.out, if_pos (by simpa using (by assumption : (a != 0) = true))])
      · go_round
        case rel =>
          have q : (a != 0) = false := by assumption
          exact ⟨1, by omega, by go_num, fun _ => by simpa using q, by omega, by omega⟩
        case measure => simp [intOf]
    by_cases e1 : k = 1
    · subst e1
      have K1 := Lib.hid (k1 (by omega))
      clear k1 k2 k3
      go_wp2_with fail
      · exact fin hR (show Value.int _ _ = Value.int _ _ by rw [H.out, if_neg (by simp [K1.out]), if_pos (by simpa using (by assumption : (b != 0) = true))])
      · go_round
        case rel =>
          have q : (b != 0) = false := by assumption
          exact ⟨2, by omega, by go_num, fun _ => K1.out, fun _ => by simpa using q, by omega⟩
        case measure => simp [intOf]
    by_cases e2 : k = 2
    · subst e2
      have K1 := Lib.hid (k1 (by omega))
      have K2 := Lib.hid (k2 (by omega))
      clear k1 k2 k3
      go_wp2_with fail
      · exact fin hR (show Value.int _ _ = Value.int _ _ by rw [H.out, if_neg (by simp [K1.out]), if_neg (by simp [K2.out])])
      · go_round
        case rel =>
          have q : (c != 0) = false := by assumption
          exact ⟨3, by omega, by go_num, fun _ => K1.out, fun _ => K2.out, fun _ => by simpa using q⟩
        case measure => simp [intOf]
    · obtain rfl : k = 3 := by omega
      have K1 := Lib.hid (k1 (by omega))
      have K2 := Lib.hid (k2 (by omega))
      have K3 := Lib.hid (k3 (by omega))
      clear k1 k2 k3
      go_wp2_with fail
      exact fin hR (show Value.int _ _ = Value.int _ _ by rw [H.out, if_neg (by simp [K1.out]), if_neg (by simp [K2.out]), K3.out])

set_option maxRecDepth 100000 in
theorem lower_any (c : UInt8) (w : World) (R : Ending → World → Prop) (hR : R (.returned (.bool (lowB c))) w) : Calls Try.prog 89 #[.int .u8 c.toNat] w R := by
  go_enter Try.func89, Try.ntmps89
  go_wp2
  all_goals exact fin hR (show Value.bool _ = Value.bool _ by congr 1; rw [Bool.eq_iff_iff]; simp [lowB]; omega)
set_option maxRecDepth 100000 in
theorem digit_any (c : UInt8) (w : World) (R : Ending → World → Prop) (hR : R (.returned (.bool (digB c))) w) : Calls Try.prog 90 #[.int .u8 c.toNat] w R := by
  go_enter Try.func90, Try.ntmps90
  go_wp2
  all_goals exact fin hR (show Value.bool _ = Value.bool _ by congr 1; rw [Bool.eq_iff_iff]; simp [digB]; omega)
set_option maxRecDepth 100000 in
theorem Word_any (s : List UInt8) (w : World) (hs : s.length ≤ 9223372036854775807) (R : Ending → World → Prop) (hR : R (.returned (.bool (wordB s))) w) : Calls Try.prog 82 #[.string ⟨s.toArray⟩] w R := by
  by_cases h1 : s.length < 1
  · go_enter Try.func82, Try.ntmps82
    go_wp2_with fail
    exact fin hR (by simp [wordB]; omega)
  by_cases h2 : 64 < s.length
  · go_enter Try.func82, Try.ntmps82
    go_wp2_with fail
    exact fin hR (by simp [wordB]; omega)
  go_enter Try.func82, Try.ntmps82
  go_wp2_with fail
  refine lower_any _ _ _ ?_
  have hne : s ≠ [] := by intro e; subst e; simp at h1
  have hd : s.head?.map lowB = some (lowB s[0]) := by
    cases s with
    | nil => exact absurd rfl hne
    | cons c r => rfl
  cases hl : lowB s[0]
  · go_wp2_with fail
    exact fin hR (by simp [wordB, hd, hl])
  have Hl := Lib.hid hl
  have Hd := Lib.hid hd
  clear hl hd hne
  go_wp2_with fail
  go_loop [3, 4] (fun t3 _ => ∃ k : Nat, k ≤ s.length ∧ t3 = .int .i64 k ∧ (s.take k).all signB = true) (fun t3 _ => s.length - (intOf t3).toNat)
  case atStart => exact ⟨0, Nat.zero_le _, rfl, rfl⟩
  case round =>
    obtain ⟨k, hk, rfl, hall⟩ := hrel
    have Hall := Lib.hid hall
    clear hall
    by_cases hlt : k < s.length
    · go_wp2_with fail
      generalize hc : s[k] = c at *
      have Hc := Lib.hid hc
      clear hc
      refine lower_any _ _ _ ?_
      cases h3 : lowB c
      · go_wp2_with fail
        refine digit_any _ _ _ ?_
        cases h4 : digB c
        · go_wp2_with fail
          all_goals first
            | (go_round
               case rel => exact ⟨k + 1, by omega, by go_num, by rw [all_take_succ _ _ _ hlt, Hall.out, Hc.out]; first | (simp [signB, *]; done) | simp_all [signB]⟩
               case measure => simp [intOf]; omega)
            | exact fin hR (show Value.bool _ = Value.bool _ by
                congr 1
                have hs : signB c = false := by first | (simp [signB, *]; done) | simp_all [signB]
                have : s.all signB = false := by rw [List.all_eq_false]; exact ⟨c, Hc.out ▸ List.getElem_mem hlt, by simp [hs]⟩
                simp [wordB, this])
        · go_wp2_with fail
          go_round
          case rel => exact ⟨k + 1, by omega, by go_num, by rw [all_take_succ _ _ _ hlt, Hall.out, Hc.out]; simp [signB, h4]⟩
          case measure => simp [intOf]; omega
      · go_wp2_with fail
        go_round
        case rel => exact ⟨k + 1, by omega, by go_num, by rw [all_take_succ _ _ _ hlt, Hall.out, Hc.out]; simp [signB, h3]⟩
        case measure => simp [intOf]; omega
    · go_wp2_with fail
      exact fin hR (show Value.bool _ = Value.bool _ by
        congr 1
        have e : k = s.length := by omega
        have := Hall.out
        rw [e, List.take_length] at this
        simp [wordB, this, Hd.out, Hl.out]; omega)

set_option maxRecDepth 100000 in
set_option maxHeartbeats 1000000 in
theorem word_any (s : List UInt8) (w : World) (hs : s.length ≤ 9223372036854775807) (R : Ending → World → Prop) (hR : ∀ w', Below w.heap.size w w' → R (.returned (.bool (wordB s))) w') : Calls Try.prog 97 #[.string ⟨s.toArray⟩] w R := by
  obtain ⟨cap, w1, hrun, hB1, hsz, hl1, hl2, hc⟩ := run_toBytes (P := Try.prog) (w := w) s 9 115 5 Try.underlying9 Try.underlying115 Try.underlying5 hs
  have Hc := Lib.hid hc
  have Hrun := Lib.hid hrun
  have Hsz := Lib.hid hsz
  clear hc hrun hsz
  go_enter Try.func97, Try.ntmps97
  go_wp2_with fail
  rw [Hrun.out]
  go_wp2_with fail
  go_loop [3, 4, 8, 13, 20] (fun _ _ t8 _ _ => ∃ k : Nat, k ≤ s.length ∧ t8 = .int .i64 k ∧ (s.take k).all signB = true ∧ (0 < k → (s.head?.map lowB).getD false = true)) (fun _ _ t8 _ _ => s.length - (intOf t8).toNat)
  case atStart => exact ⟨0, Nat.zero_le _, rfl, rfl, by omega⟩
  case round =>
    obtain ⟨k, hk, rfl, hall, hfirst⟩ := hrel
    have Hall := Lib.hid hall
    have Hfirst := Lib.hid hfirst
    clear hall hfirst
    by_cases hlt : k < s.length
    · have h0 := Hc.out k (.int .u8 s[k].toNat) (by simp [hlt])
      rw [Nat.zero_add] at h0
      have Hhead : Hid (k = 0 → s.head? = some s[k]) := by
        intro e
        subst e
        cases s with
        | nil => simp at hlt
        | cons c r => rfl
      generalize hx : s[k] = c at *
      have Hx := Lib.hid hx
      clear hx
      by_cases hk0 : k = 0
      · subst hk0
        have Hno : Hid (lowB c = false → wordB s = false) := fun h => by
          simp [wordB, Hhead.out rfl, h]
        go_wp2_with fail
        all_goals first
          | (go_round
             case rel => exact ⟨1, by omega, by go_num, by rw [all_take_succ _ _ _ hlt, Hall.out, Hx.out]; simp [signB, lowB, *], fun _ => by rw [Hhead.out rfl]; simp [lowB, *]⟩
             case measure => simp [intOf]; omega)
          | (rw [Hno.out (by simp [lowB, *]; try omega)] at hR
             exact hR _ hB1)
      · have Hno : Hid (signB c = false → wordB s = false) := fun h => by
          have : s.all signB = false := by rw [List.all_eq_false]; exact ⟨c, Hx.out ▸ List.getElem_mem hlt, by simp [h]⟩
          simp [wordB, this]
        have Hf := Lib.hid (Hfirst.out (by omega))
        clear Hhead
        go_wp2_with fail
        all_goals first
          | (go_round
             case rel => exact ⟨k + 1, by omega, by go_num, by rw [all_take_succ _ _ _ hlt, Hall.out, Hx.out]; first | (simp [signB, lowB, digB, *]; done) | (simp_all [signB, lowB, digB]; done) | (simp [signB, lowB, digB] at *; omega), fun _ => Hf.out⟩
             case measure => simp [intOf]; omega)
          | (rw [Hno.out (by first | (simp [signB, lowB, digB, *]; done) | (simp_all [signB, lowB, digB]; done) | (simp [signB, lowB, digB] at *; omega))] at hR
             exact hR _ hB1)
    · have Hw : Hid (wordB s = (decide (1 ≤ (s.length : Int)) && decide ((s.length : Int) ≤ 64))) := by
        have e : k = s.length := by omega
        have h1 := Hall.out
        rw [e, List.take_length] at h1
        by_cases h0 : 0 < k
        · have h2 := Hfirst.out h0
          unfold wordB
          rw [h1, h2, Bool.and_true, Bool.and_true]
          exact rfl
        · have : s = [] := List.eq_nil_of_length_eq_zero (by omega)
          subst this
          rfl
      go_wp2_with fail
      all_goals exact fin (hR _ hB1) (show Value.bool _ = Value.bool _ by congr 1; rw [Hw.out]; simp [*] <;> omega)
set_option maxRecDepth 100000 in
set_option maxHeartbeats 1000000 in
theorem May_any (v : V) (w : World) (hs : v.s.length ≤ 9223372036854775807) (R : Ending → World → Prop) (hR : ∀ w', Below w.heap.size w w' → R (.returned (.bool (mayB v))) w') :
    Calls Try.prog 71 #[.agg #[.int .i64 v.kind, .int .i64 v.n, .string ⟨v.s.toArray⟩]] w R := by
  by_cases k7 : v.kind = 7
  · by_cases n0 : v.n = 0
    · go_enter Try.func71, Try.ntmps71
      go_wp2_with fail
      refine Word_any _ _ hs _ ?_
      have e : mayB v = wordB v.s := by simp [mayB, k7, n0]
      rw [e] at hR
      go_wp2_with fail
      exact (Below.refl _ _).alloc (Nat.le_refl _) _
    · go_enter Try.func71, Try.ntmps71
      have e : mayB v = false := by simp [mayB, k7, n0]
      rw [e] at hR
      go_wp2_with fail
      exact (Below.refl _ _).alloc (Nat.le_refl _) _
  · go_enter Try.func71, Try.ntmps71
    go_wp2_with fail
    all_goals refine fin (hR _ ((Below.refl _ _).alloc (Nat.le_refl _) _)) (show Value.bool _ = Value.bool _ by congr 1; simp_all [mayB] <;> omega)

set_option maxRecDepth 100000 in
set_option maxHeartbeats 1000000 in
theorem may_any (v : V) (w : World) (hs : v.s.length ≤ 9223372036854775807) (R : Ending → World → Prop) (hR : ∀ w', Below w.heap.size w w' → R (.returned (.bool (mayB v))) w') :
    Calls Try.prog 95 #[.agg #[.int .i64 v.kind, .int .i64 v.n, .string ⟨v.s.toArray⟩]] w R := by
  by_cases k7 : v.kind = 7
  · by_cases n0 : v.n = 0
    · go_enter Try.func95, Try.ntmps95
      go_wp2_with fail
      refine word_any _ _ hs _ fun w1 hB1 => ?_
      have e : mayB v = wordB v.s := by simp [mayB, k7, n0]
      rw [e] at hR
      have hB : Below w.heap.size w w1 := ((Below.refl _ _).alloc (Nat.le_refl _) _).trans (hB1.mono (by simp))
      go_wp2_with fail
      exact hB
    · go_enter Try.func95, Try.ntmps95
      have e : mayB v = false := by simp [mayB, k7, n0]
      rw [e] at hR
      go_wp2_with fail
      exact (Below.refl _ _).alloc (Nat.le_refl _) _
  · go_enter Try.func95, Try.ntmps95
    go_wp2_with fail
    all_goals refine fin (hR _ ((Below.refl _ _).alloc (Nat.le_refl _) _)) (show Value.bool _ = Value.bool _ by congr 1; simp_all [mayB] <;> omega)

set_option maxRecDepth 100000 in
set_option maxHeartbeats 1000000 in
theorem Check_any (v : V) (w : World) (hs : v.s.length ≤ 9223372036854775807) (R : Ending → World → Prop) (hR : ∀ w', Below w.heap.size w w' → R (.returned (.int .i64 (if mayB v then 0 else 10))) w') :
    Calls Try.prog 92 #[.agg #[.int .i64 v.kind, .int .i64 v.n, .string ⟨v.s.toArray⟩]] w R := by
  go_enter Try.func92, Try.ntmps92
  go_wp2_with fail
  refine may_any v _ hs _ fun w1 hB1 => ?_
  have hB : Below w.heap.size w w1 := by first | exact hB1 | exact ((Below.refl _ _).alloc (Nat.le_refl _) _).trans (hB1.mono (by simp))
  cases hm : mayB v <;> rw [hm] at hR <;> clear hm <;> (go_wp2_with fail) <;> exact hB

end Go.Proofs.Ytkcpanaojehgiaa
