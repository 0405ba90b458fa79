/- The document's key, as bytes, and the end of a prefix. -/
import Derived.Test.YtomclldnoockcaaRefVal
import Derived.Test.YtomclldnoockcaaEnd
namespace Go.Proofs.Ytomclldnoockcaa
open Go.RowKit

theorem srcB {w : World} {lo hi : Nat} {v : Value} {ys : List UInt8} (h : Bytes lo hi w v ys) : Src Try.prog 1 22 v ys.length (ys.flatMap bE) w :=
  Src.ofSl h (fun _ => rfl) (fun x u hu => by simp only [bE, List.mem_singleton] at hu; subst hu; rfl) Try.underlying22

set_option maxRecDepth 100000 in
set_option maxHeartbeats 4000000 in
theorem refKey_any (lo hi : Nat) (l : List Pt) (v : Value) (w : World) (hv : Pts lo hi w v l) (hhi : hi ≤ w.heap.size) (hs : sumP l ≤ 1000000) (R : Ending → World → Prop)
    (hyes : l.all Pt.ok = true → ∀ w' v', Below w.heap.size w w' → OwnB w.heap.size w' v' (encK l) → R (.returned (.tuple #[v', .int .i64 0])) w')
    (hno : l.all Pt.ok = false → ∀ w', Below w.heap.size w w' → R (.returned (.tuple #[.slice none 0 0, .int .i64 10])) w') :
    Calls Try.prog 14 #[v] w R := by
  obtain ⟨ao, cap, rfl, hl1, hl2, -, hc⟩ := hv.form
  have Hc := Lib.hid hc
  have hll := sumP_length l
  have Hyes := Lib.hid hyes
  have Hno := Lib.hid hno
  clear hc hyes hno
  go_enter Try.func14, Try.ntmps14
  go_wp2
  go_loopw [4, 5] (fun t4 t5 wr => ∃ k : Nat, k ≤ l.length ∧ t5 = .int .i64 k ∧ Below w.heap.size w wr ∧ OwnB w.heap.size wr t4 (encK (l.take k)) ∧ (l.take k).all Pt.ok = true) (fun _ t5 _ => l.length - (intOf t5).toNat)
  case atStart => exact ⟨0, Nat.zero_le _, rfl, Below.refl _ _, Own.nil _ _ _ _ _, rfl⟩
  case round =>
    obtain ⟨k, hk, rfl, hB, ho, hok⟩ := hrel
    have Ho := Lib.hid ho
    have Hok := Lib.hid hok
    clear ho hok
    have hs1 := hB.size
    by_cases hlt : k < l.length
    · obtain ⟨b, off, rfl, hb1, hb2, hcc⟩ := Hc.out k hlt
      obtain ⟨cs, -, hcs, he⟩ := hcc k hlt
      subst he
      have hA : Agree lo hi w wr := .below hB hhi
      obtain ⟨c0, c1, c2, c3, c4⟩ := (hcs.agree hA hb1 hb2).c5
      have hp := sumP_part l k hlt
      have hlen : (encK (l.take k)).length ≤ 2000000 := by have := encK_length (l.take k); have := sumP_take_le l k; omega
      have hsl : l[k].v.s.length ≤ 1000000 := by omega
      have hst := encK_take_succ l k hlt
      have hat := all_take_succ l Pt.ok k hlt
      rw [Hok.out, Bool.true_and] at hat
      have Hst := Lib.hid hst
      have Hat := Lib.hid hat
      clear hcs hcc hst hp hat
      have Hm := Lib.hid (List.getElem_mem hlt)
      cases his : l[k].is
      · rw [his] at c0
        have ok1 : l[k].ok = true := by simp [Pt.ok, his]
        have eb : l[k].bytes = num8 l[k].n := by simp [Pt.bytes, his]
        have Hok1 := Lib.hid ok1
        have Heb := Lib.hid eb
        clear ok1 eb his
        go_wp2_with fail
        refine refNumber_any _ _ _ fun w3 g hB3 ho3 => ?_
        have Hn := Lib.hid ho3
        have Ho3 := Lib.hid (Own.kept Ho.out hB3)
        have hl := num8_length l[k].n
        have hlo3 := Nat.le_trans hs1 hB3.size
        have hB5 := hB.trans (hB3.mono hs1)
        clear hB3 c0 c1 c2 c3 c4 ho3
        go_wp2_with (at_builtin; refine AtApp.of ?_)
        obtain ⟨v4, w4, hr, ho4, ha4⟩ := appB (ys := num8 l[k].n) Ho3.out (srcB (OwnB.bytes Hn.out)) (by omega) hlo3
        refine AtApp.go hr rfl rfl rfl rfl ?_
        have Ho4 := Lib.hid ho4
        have hB6 := hB5.trans (Own.below Ho3.out ha4 hlo3)
        clear hr ho4 ha4
        go_wp2_with fail
        go_roundw
        case rel => exact ⟨k + 1, by omega, by go_num, hB6, by rw [Hst.out, Heb.out]; exact Ho4.out, by rw [Hat.out, Hok1.out]⟩
        case measure => simp [intOf]; omega
      · rw [his] at c0
        have hok1 : l[k].ok = mayB l[k].v := by simp [Pt.ok, his]
        have eb : l[k].bytes = encV l[k].v := by simp [Pt.bytes, his]
        have hel := encV_length l[k].v
        have Hok1 := Lib.hid hok1
        have Heb := Lib.hid eb
        clear hok1 eb his
        go_wp2_with fail
        refine refValue_any l[k].v _ (by omega) _ (fun hm w3 v3 hB3 ho3 => ?_) (fun hm w3 hB3 => ?_)
        · have Hmm := Lib.hid hm
          have Hn := Lib.hid ho3
          have Ho3 := Lib.hid (Own.kept Ho.out hB3)
          have hlo3 := Nat.le_trans hs1 hB3.size
          have hB5 := hB.trans (hB3.mono hs1)
          clear hm ho3 hB3
          go_wp2_with (at_builtin; refine AtApp.of ?_)
          obtain ⟨v4, w4, hr, ho4, ha4⟩ := appB (ys := encV l[k].v) Ho3.out (srcB (OwnB.bytes Hn.out)) (by omega) hlo3
          refine AtApp.go hr rfl rfl rfl rfl ?_
          have Ho4 := Lib.hid ho4
          have hB6 := hB5.trans (Own.below Ho3.out ha4 hlo3)
          clear hr ho4 ha4
          go_wp2_with fail
          go_roundw
          case rel => exact ⟨k + 1, by omega, by go_num, hB6, by rw [Hst.out, Heb.out]; exact Ho4.out, by rw [Hat.out, Hok1.out, Hmm.out]⟩
          case measure => simp [intOf]; omega
        · have Hmm := Lib.hid hm
          clear hm
          have hno2 : l.all Pt.ok = false := by
            rw [List.all_eq_false]
            exact ⟨l[k], Hm.out, by rw [Hok1.out, Hmm.out]; simp⟩
          have hr := Hno.out hno2 _ (hB.trans (hB3.mono hs1))
          clear hno2
          go_wp2_with fail
          exact fin hr rfl
    · have ho := Ho.out
      have hok := Hok.out
      rw [List.take_of_length_le (by omega)] at ho hok
      have hr := Hyes.out hok _ _ hB ho
      clear ho hok
      go_wp2_with fail
      first | exact hr | exact fin hr rfl

set_option maxRecDepth 100000 in
set_option maxHeartbeats 4000000 in
theorem refEnd_any (lo hi : Nat) (v : Value) (l : List UInt8) (w : World) (hv : Bytes lo hi w v l) (hhi : hi ≤ w.heap.size) (hlen : l.length ≤ 100000000) (R : Ending → World → Prop)
    (hno : endP l = none → ∀ w', Below w.heap.size w w' → R (.returned (.tuple #[.slice none 0 0, .bool false])) w')
    (hyes : ∀ e, endP l = some e → ∀ w' v', Below w.heap.size w w' → OwnB w.heap.size w' v' e → R (.returned (.tuple #[v', .bool true])) w') :
    Calls Try.prog 15 #[v] w R := by
  obtain ⟨ao, cap, rfl, hl1, hl2, -, hc⟩ := hv.form
  have Hc := Lib.hid hc
  have Hyes := Lib.hid hyes
  have Hno := Lib.hid hno
  clear hc hyes hno
  go_enter Try.func15, Try.ntmps15
  go_wp2
  go_loopw [4] (fun t4 wr => ∃ n : Nat, n ≤ l.length ∧ t4 = .int .i64 n ∧ (∀ i (hi : i < l.length), n ≤ i → l[i] = 255) ∧ wr = w) (fun t4 _ => (intOf t4).toNat)
  case atStart => exact ⟨l.length, Nat.le_refl _, rfl, fun i hi h => absurd hi (by omega), rfl⟩
  case round =>
    obtain ⟨n, hn, rfl, hff, rfl⟩ := hrel
    have Hff := Lib.hid hff
    clear hff
    by_cases hn0 : n = 0
    · subst hn0
      have hr := Hno.out (endP_none l (fun c hc => by obtain ⟨i, hi, rfl⟩ := List.getElem_of_mem hc; exact Hff.out i hi (Nat.zero_le _))) _ (Below.refl _ _)
      go_wp2_with fail
      first | exact hr | exact fin hr rfl
    · obtain ⟨m, rfl⟩ : ∃ m, n = m + 1 := ⟨n - 1, by omega⟩
      obtain ⟨b, off, rfl, hb1, hb2, hcc⟩ := Hc.out m (by omega)
      obtain ⟨cs, _, hcs, rfl⟩ := hcc m (by omega)
      have g0 := hcs.c1
      rw [Nat.mul_one] at g0
      clear hcs
      have hm : m < l.length := by omega
      by_cases h255 : l[m] = 255
      · have t255 : decide ((l[m].toNat : Int) < 255) = false := by rw [h255]; rfl
        have H255 := Lib.hid h255
        clear h255
        go_wp2_with fail
        go_roundw
        case rel =>
          refine ⟨m, by omega, by go_num, fun i hi hmi => ?_, by first | rfl | trivial⟩
          by_cases e : i = m
          · subst e; exact H255.out
          · exact Hff.out i hi (by omega)
        case measure => simp [intOf]
      · have hlt : l[m].toNat + 1 < 256 := by
          have h1 : l[m].toNat ≠ 255 := fun e => h255 (by rw [← UInt8.toNat_inj]; exact e)
          have := l[m].toNat_lt
          omega
        have t255 : decide ((l[m].toNat : Int) < 255) = true := by simp; omega
        have He := Lib.hid (endP_some l m hm (fun i hi h => Hff.out i hi h) h255)
        have hpc := Sl.piece (cap := cap) hcc hb1 hb2 0 m cap (by omega) (by omega) (by simp only [maxLen]; omega)
        rw [List.drop_zero, Nat.zero_mul, Nat.add_zero] at hpc
        have hpl : (l.take m).length = m := by rw [List.length_take]; omega
        clear h255 hcc
        go_wp2_with (at_builtin; refine AtApp.of ?_)
        have hB1 : Below wr.heap.size wr (wr.alloc (.cells #[] 5)) := (Below.refl _ _).alloc (Nat.le_refl _) _
        have hom := Own.made bE 5 1 wr.heap.size wr rfl (Nat.le_refl _)
        obtain ⟨v2, w2, hr, ho2, ha2⟩ := appB (ys := l.take m) hom (srcB (hpc.below (flat_loc _) hB1 hhi)) (by rw [hpl]; simp; omega) hB1.size
        refine AtApp.go hr rfl rfl rfl rfl ?_
        have hB2 := hB1.trans (Own.below hom ha2 hB1.size)
        rw [List.nil_append] at ho2
        have Ho2 := Lib.hid ho2
        have hc2 : w2.cell? ⟨b, off + m, none⟩ = some (.int .u8 l[m].toNat) := by rw [World.cell?_of_block (hB2.block b (by omega))]; exact g0
        have hadd : ((l[m].toNat : Int) + 1) = ((l[m] + 1).toNat : Int) := by
          have : (l[m] + 1).toNat = l[m].toNat + 1 := by rw [UInt8.toNat_add]; simp; omega
          omega
        have Hadd := Lib.hid hadd
        have hs2 := hB2.size
        clear hr ho2 ha2 hom hB1 hpc hadd
        go_wp2_with (at_builtin; refine AtApp.of ?_)
        obtain ⟨v3, w3, hr, ho3, ha3⟩ := app1x Ho2.out (l[m] + 1) Hadd.out w2.heap.size rfl (by rw [hpl]; omega) hs2
        refine AtApp.go hr rfl rfl rfl rfl ?_
        have Ho3 := Lib.hid ho3
        have hB3 := hB2.trans (Own.below Ho2.out ha3 hs2)
        have hr3 := Hyes.out _ He.out _ _ hB3 Ho3.out
        clear hr ho3 ha3
        go_wp2_with fail
        first | exact hr3 | exact fin hr3 rfl
end Go.Proofs.Ytomclldnoockcaa
