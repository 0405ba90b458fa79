/- The document's reading of bytes, by kinds. -/
import Derived.Test.YtomclldnoockcaaReadOne
import Derived.Test.YtomclldnoockcaaRead
namespace Go.Proofs.Ytomclldnoockcaa
open Go.RowKit

/-- Where parts end within bytes, and what is left. -/
theorem readK_t {ks : List Bool} {r r' : List UInt8} {v : V} (h : oneV r = some (v, r')) : readK (true :: ks) r = (readK ks r').map (⟨true, 0, v⟩ :: ·) := by simp [readK, h]

set_option maxRecDepth 100000 in
set_option maxHeartbeats 8000000 in
theorem refRead_any (hi : Nat) (b : List UInt8) (kinds : List Bool) (bv kv : Value) (w : World) (hb : Bytes 0 hi w bv b) (hk : Bools 0 hi w kv kinds) (hhi : hi ≤ w.heap.size) (hbl : b.length ≤ 100000000) (hkl : kinds.length ≤ 100000000) (R : Ending → World → Prop)
    (hyes : ∀ l, readK kinds b = some l → ∀ w' v, Below w.heap.size w w' → OwnP w.heap.size w' v l → R (.returned (.tuple #[v, .int .i64 0])) w')
    (hno : readK kinds b = none → ∀ w', Below w.heap.size w w' → R (.returned (.tuple #[.slice none 0 0, .int .i64 20])) w') :
    Calls Try.prog 21 #[bv, kv] w R := by
  have Hb := Lib.hid hb
  have Hk := Lib.hid hk
  have Hyes := Lib.hid hyes
  have Hno := Lib.hid hno
  obtain ⟨ao, cap, rfl, h1, h2, hnn, -⟩ := hb.form
  obtain ⟨ao2, cap2, rfl, h3, h4, -, hc2⟩ := hk.form
  have Hc2 := Lib.hid hc2
  have hb0 := hb
  clear hb hk hyes hno hc2
  go_enter Try.func21, Try.ntmps21
  go_wp2_with fail
  go_loopw [6, 7, 8] (fun t6 t7 t8 wr => ∃ (k n : Nat) (out : List Pt), k ≤ kinds.length ∧ n ≤ b.length ∧ t8 = .int .i64 k ∧ t7 = .int .i64 n ∧ Below w.heap.size w wr ∧ OwnP w.heap.size wr t6 out ∧ out.length = k ∧ readK kinds b = (readK (kinds.drop k) (b.drop n)).map (out ++ ·)) (fun _ _ t8 _ => kinds.length - (intOf t8).toNat)
  case atStart => exact ⟨0, 0, [], Nat.zero_le _, Nat.zero_le _, rfl, rfl, Below.refl _ _, Own.nil _ _ _ _ _, rfl, by simp⟩
  case round =>
    obtain ⟨k, n, out, hkle, hnl, rfl, rfl, hB, ho, hol, hread⟩ := hrel
    have Ho := Lib.hid ho
    have Hread := Lib.hid hread
    have hsz := hB.size
    have hdl : (b.drop n).length = b.length - n := List.length_drop ..
    have Hdl := Lib.hid hdl
    clear ho hread hdl
    by_cases hlt : k < kinds.length
    · obtain ⟨kb, koff, rfl, p1, p2, q1⟩ := Hc2.out k hlt
      obtain ⟨cs, -, hcs, e⟩ := q1 k hlt
      subst e
      have g0 := (hcs.agree (.below hB hhi) p1 p2).c1
      rw [Nat.mul_one] at g0
      have hdk := List.drop_eq_getElem_cons hlt
      clear hcs q1
      have hsub : ((b.length : Int) - (n : Int)) = ((b.length - n : Nat) : Int) := by omega
      cases hkd : kinds[k] with
      | true =>
        rw [hkd] at g0 hdk
        have Hdk := Lib.hid hdk
        clear hkd hdk
        rcases hb0.cases with ⟨hbn, ao', cap', e', -, hn'⟩ | ⟨hp, blk, off, cap', e', -, -, hlo3, hhi3, hcc⟩
        · have hd0 : b.drop n = [] := by rw [hbn]; simp
          have hn0 : n = 0 := by rw [hbn] at hnl; simpa using hnl
          have hl0 : b.length = 0 := by rw [hbn]; rfl
          subst hn0
          rw [hl0] at e' ⊢
          cases e'
          cases ao with
          | none =>
            cases hn' rfl
            have hone0 : oneV (b.drop 0) = none := by rw [hd0]; rfl
            have hno2 := Hread.out
            rw [Hdk.out, readK_none hone0] at hno2
            have Hno2 := Lib.hid hno2
            clear hno2
            go_wp2_with fail
            refine one_any hi _ [] wr (Sl.empty _ _ _ _ _ _ _ (by simp [maxLen]) (fun _ => rfl)) (Nat.le_trans hhi hsz) (by simp) _ (fun v r' hone => by cases hone) (fun _ w3 v hB3 => ?_)
            have hr := Hno.out Hno2.out (w3.alloc (.cells #[.int .i64 v.kind, .int .i64 v.n, .string ⟨v.s.toArray⟩] 37)) ((hB.trans (hB3.mono hsz)).alloc (Nat.le_trans hsz hB3.size) _)
            go_wp2_with fail
            exact fin hr rfl
          | some at2 =>
            obtain ⟨blk, off, spot⟩ := at2
            have hone0 : oneV (b.drop 0) = none := by rw [hd0]; rfl
            have hno2 := Hread.out
            rw [Hdk.out, readK_none hone0] at hno2
            have Hno2 := Lib.hid hno2
            clear hno2
            go_wp2_with fail
            refine one_any hi _ [] wr (Sl.empty _ _ _ _ _ _ _ (by simp only [maxLen]; omega) (fun h => by cases h)) (Nat.le_trans hhi hsz) (by simp) _ (fun v r' hone => by cases hone) (fun _ w3 v hB3 => ?_)
            have hr := Hno.out Hno2.out (w3.alloc (.cells #[.int .i64 v.kind, .int .i64 v.n, .string ⟨v.s.toArray⟩] 37)) ((hB.trans (hB3.mono hsz)).alloc (Nat.le_trans hsz hB3.size) _)
            go_wp2_with fail
            exact fin hr rfl
        · cases e'
          by_cases hcn : cap = n
          · have hbn : b.length = n := by omega
            have hd0 : b.drop n = [] := List.drop_eq_nil_of_le (by omega)
            rw [hbn, hcn]
            have hone0 : oneV (b.drop n) = none := by rw [hd0]; rfl
            have hno2 := Hread.out
            rw [Hdk.out, readK_none hone0] at hno2
            have Hno2 := Lib.hid hno2
            clear hno2
            go_wp2_with fail
            refine one_any hi _ [] wr (Sl.empty _ _ _ _ _ _ _ (by simp [maxLen]) (fun h => by cases h)) (Nat.le_trans hhi hsz) (by simp) _ (fun v r' hone => by cases hone) (fun _ w3 v hB3 => ?_)
            have hr := Hno.out Hno2.out (w3.alloc (.cells #[.int .i64 v.kind, .int .i64 v.n, .string ⟨v.s.toArray⟩] 37)) ((hB.trans (hB3.mono hsz)).alloc (Nat.le_trans hsz hB3.size) _)
            go_wp2_with fail
            exact fin hr rfl
          · have hpc := Sl.piece (cap := cap) hcc hlo3 hhi3 n (b.length - n) (cap - n) (by omega) (by omega) (by simp only [maxLen]; omega)
            rw [Nat.mul_one, List.take_of_length_le (by rw [Hdl.out]; exact Nat.le_refl _)] at hpc
            have Hpc := Lib.hid hpc
            have hle : n ≤ cap := by omega
            clear hpc hcc
            go_wp2_with fail
            refine one_any hi _ (b.drop n) wr (Sl.below Hpc.out (flat_loc _) hB hhi) (Nat.le_trans hhi hsz) (by rw [Hdl.out]; omega) _ (fun v r' hone w3 n2 hB3 hn0 hnb hrd => ?_) (fun hone w3 v hB3 => ?_)
            · have hrk := Hread.out
              rw [Hdk.out, readK_some hone, map_snoc, hrd, List.drop_drop] at hrk
              have Hrk := Lib.hid hrk
              rw [Hdl.out] at hnb
              have hBw := hB.trans (hB3.mono hsz)
              have hsz3 := hBw.size
              have Ho3 := Lib.hid (Own.kept Ho.out hB3)
              have hnz : ((n2 : Int) == 0) = false := by simp; omega
              have hB4 : Below w3.heap.size w3 (w3.alloc (.cells #[.int .i64 v.kind, .int .i64 v.n, .string ⟨v.s.toArray⟩] 37)) := (Below.refl _ _).alloc (Nat.le_refl _) _
              have Ho4 := Lib.hid (Own.kept Ho3.out hB4)
              have hBw4 := hBw.trans (hB4.mono hsz3)
              have hsz4 := hBw4.size
              have hs4 : (w3.alloc (.cells #[.int .i64 v.kind, .int .i64 v.n, .string ⟨v.s.toArray⟩] 37)).heap.size = w3.heap.size + 1 := by simp
              have hin : IntKind.i64.wrap ((n : Int) + (n2 : Int)) = ((n + n2 : Nat) : Int) := by rw [IntKind.wrap_i64]; omega
              clear hrk hone hrd
              go_wp2_with (at_builtin; refine AtApp.of ?_)
              obtain ⟨v8, w8, hr, ho8, ha8⟩ := appP1 Ho4.out ⟨true, 0, v⟩ (n := w3.heap.size + 1) hs4.symm (by omega) hsz4
              refine AtApp.go hr rfl rfl rfl rfl ?_
              have Ho8 := Lib.hid ho8
              have hB8 := hBw4.trans (ha8.below hsz4 (fun k e => (Own.lt Ho4.out k e).1))
              clear hr ho8 ha8 hs4
              go_wp2_with fail
              go_roundw
              case rel => exact ⟨k + 1, n + n2, out ++ [⟨true, 0, v⟩], by omega, by omega, by go_num, by go_num, hB8, Ho8.out, by simp; omega, Hrk.out⟩
              case measure => simp [intOf]; omega
            · have hno2 := Hread.out
              rw [Hdk.out, readK_none hone] at hno2
              have hr := Hno.out hno2 (w3.alloc (.cells #[.int .i64 v.kind, .int .i64 v.n, .string ⟨v.s.toArray⟩] 37)) ((hB.trans (hB3.mono hsz)).alloc (Nat.le_trans hsz hB3.size) _)
              clear hno2
              go_wp2_with fail
              exact fin hr rfl
      | false =>
        rw [hkd] at g0 hdk
        have Hdk := Lib.hid hdk
        clear hkd hdk
        by_cases h8 : b.length - n < 8
        · have hno2 := Hread.out
          rw [Hdk.out, readK_short (by rw [Hdl.out]; exact h8)] at hno2
          have hr := Hno.out hno2 wr hB
          have h8' : ((b.length : Int) - (n : Int)) < 8 := by omega
          clear hno2
          go_wp2_with fail
          exact fin hr rfl
        · rcases hb0.cases with ⟨hbn, -⟩ | ⟨hp, blk, off, cap', e', -, -, hlo3, hhi3, hcc⟩
          · rw [hbn] at h8; simp at h8
          cases e'
          have hpc := Sl.piece (cap := cap) hcc hlo3 hhi3 n (b.length - n) (cap - n) (by omega) (by omega) (by simp only [maxLen]; omega)
          rw [Nat.mul_one, List.take_of_length_le (by rw [Hdl.out]; exact Nat.le_refl _)] at hpc
          have Hpc := Lib.hid hpc
          have hle : n ≤ cap := by omega
          have hcn : cap ≠ n := by omega
          have h8' : ¬ ((b.length : Int) - (n : Int)) < 8 := by omega
          have hrk := Hread.out
          rw [Hdk.out, readK_num (by rw [Hdl.out]; omega), map_snoc, List.drop_drop] at hrk
          have Hrk := Lib.hid hrk
          clear hpc hcc hrk
          go_wp2_with (at_builtin; refine AtApp.of ?_)
          refine refnumber_any hi _ (b.drop n) wr (Sl.below Hpc.out (flat_loc _) hB hhi) (by rw [Hdl.out]; omega) _ ?_
          go_wp2_with (at_builtin; refine AtApp.of ?_)
          obtain ⟨v8, w8, hr, ho8, ha8⟩ := appP1 Ho.out ⟨false, numI ((b.drop n).take 8), ⟨0, 0, []⟩⟩ (n := wr.heap.size) rfl (by omega) hsz
          refine AtApp.go hr rfl rfl rfl rfl ?_
          have Ho8 := Lib.hid ho8
          have hB8 := hB.trans ((ha8.below hsz (fun k e => (Own.lt Ho.out k e).1)).mono (Nat.le_refl _))
          clear hr ho8 ha8
          go_wp2_with fail
          go_roundw
          case rel => exact ⟨k + 1, n + 8, out ++ [⟨false, numI ((b.drop n).take 8), ⟨0, 0, []⟩⟩], by omega, by omega, by go_num, by go_num, hB8, Ho8.out, by simp; omega, Hrk.out⟩
          case measure => simp [intOf]; omega
    · have hk2 : k = kinds.length := by omega
      have hr0 := Hread.out
      rw [hk2, List.drop_eq_nil_of_le (Nat.le_refl _)] at hr0
      simp only [readK] at hr0
      by_cases hnb : n < b.length
      · have hr := Hno.out (by rw [hr0, if_neg (by rw [List.isEmpty_iff]; intro e; have := Hdl.out; rw [e] at this; simp at this; omega)]; rfl) wr hB
        clear hr0
        go_wp2_with fail
        exact fin hr rfl
      · have hd0 : b.drop n = [] := List.drop_eq_nil_of_le (by omega)
        have hr := Hyes.out out (by rw [hr0, hd0]; simp) wr _ hB Ho.out
        clear hr0 hd0
        go_wp2_with fail
        exact fin hr rfl
end Go.Proofs.Ytomclldnoockcaa
