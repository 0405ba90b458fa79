/- order.Key: parts as bytes. -/
import Derived.Test.YtomclldnoockcaaWritten
import Derived.Test.YtomclldnoockcaaGreat
namespace Go.Proofs.Ytomclldnoockcaa
open Go.RowKit

theorem Own.below {α : Type} {enc : α → List Value} {e : TypeId} {size lo : Nat} {w w' : World} {v v' : Value} {xs : List α} (h : Own enc e size lo w v xs) (ha : Appended w v w' v') (hlo : lo ≤ w.heap.size) : Below lo w w' := ha.below hlo (fun k e => (h.lt k e).1)

set_option maxRecDepth 100000 in
set_option maxHeartbeats 4000000 in
theorem Key_any (lo hi : Nat) (l : List Pt) (v : Value) (w : World) (hv : Pts lo hi w v l) (hhi : hi ≤ w.heap.size) (hs : sumP l ≤ 1000000) (R : Ending → World → Prop)
    (hyes : l.all Pt.ok = true → ∀ w' v', Below w.heap.size w w' → OwnB w.heap.size w' v' (encK l) → R (.returned (.tuple #[v', .int .i64 0])) w')
    (hno : l.all Pt.ok = false → ∀ w', Below w.heap.size w w' → R (.returned (.tuple #[.slice none 0 0, .int .i64 10])) w') :
    Calls Try.prog 13 #[v] w R := by
  obtain ⟨ao, cap, rfl, hl1, hl2, -, hc⟩ := hv.form
  have Hc := Lib.hid hc
  have hll := sumP_length l
  have Hyes := Lib.hid hyes
  have Hno := Lib.hid hno
  clear hc hyes hno
  go_enter Try.func13, Try.ntmps13
  go_wp2
  go_loopw [4, 10] (fun t4 t10 wr => ∃ k : Nat, k ≤ l.length ∧ t10 = .int .i64 k ∧ Below w.heap.size w wr ∧ OwnB w.heap.size wr t4 (encK (l.take k)) ∧ (l.take k).all Pt.ok = true) (fun _ t10 _ => l.length - (intOf t10).toNat)
  case atStart => exact ⟨0, Nat.zero_le _, rfl, Below.refl _ _, Own.nil _ _ _ _ _, rfl⟩
  case round =>
    obtain ⟨k, hk, rfl, hB, ho, hok⟩ := hrel
    have Ho := Lib.hid ho
    have Hok := Lib.hid hok
    clear ho hok
    by_cases hlt : k < l.length
    · obtain ⟨b, off, rfl, hb1, hb2, hcc⟩ := Hc.out k hlt
      obtain ⟨cs, -, hcs, he⟩ := hcc k hlt
      subst he
      have hA : Agree lo hi w wr := .below hB hhi
      obtain ⟨c0, c1, c2, c3, c4⟩ := (hcs.agree hA hb1 hb2).c5
      have hp := sumP_part l k hlt
      have hlen : (encK (l.take k)).length ≤ 2000000 := by have := encK_length (l.take k); have := sumP_take_le l k; omega
      have hsl : l[k].v.s.length ≤ 1000000 := by omega
      have hst := encK_take_succ l k hlt
      have hat := all_take_succ l Pt.ok k hlt
      rw [Hok.out, Bool.true_and] at hat
      have Hst := Lib.hid hst
      have Hat := Lib.hid hat
      have hB0 : Below wr.heap.size wr (wr.alloc (.cells #[.bool l[k].is, .int .i64 l[k].n, .int .i64 l[k].v.kind, .int .i64 l[k].v.n, .string ⟨l[k].v.s.toArray⟩] 39)) := (Below.refl _ _).alloc (Nat.le_refl _) _
      have hbox : Blk (wr.alloc (.cells #[.bool l[k].is, .int .i64 l[k].n, .int .i64 l[k].v.kind, .int .i64 l[k].v.n, .string ⟨l[k].v.s.toArray⟩] 39)) wr.heap.size [.bool l[k].is, .int .i64 l[k].n, .int .i64 l[k].v.kind, .int .i64 l[k].v.n, .string ⟨l[k].v.s.toArray⟩] 39 := Blk.new _ _ _ rfl
      have hs1 := hB.size
      have Hpt := Lib.hid (rfl : l[k] = l[k])
      clear hcs hcc hst hp hat
      have Hm := Lib.hid (List.getElem_mem hlt)
      cases his : l[k].is
      · rw [his] at hB0 hbox c0
        have ok1 : l[k].ok = true := by simp [Pt.ok, his]
        have eb : l[k].bytes = num8 l[k].n := by simp [Pt.bytes, his]
        have Hok1 := Lib.hid ok1
        have Heb := Lib.hid eb
        clear ok1 eb his
        go_wp2_with fail
        refine Number_any _ _ _ fun w3 g hB3 hg hblk => ?_
        have hB4 := hB0.trans (hB3.mono hB0.size)
        have Ho3 := Lib.hid (Ho.out.kept hB4)
        have hl := num8_length l[k].n
        have hlo3 := Nat.le_trans hs1 hB4.size
        have hB5 := hB.trans (hB4.mono hs1)
        clear hB3 hbox hB0 c0 c1 c2 c3 c4
        go_wp2_with (at_builtin; refine AtApp.of ?_)
        obtain ⟨v4, w4, hr, ho4, ha4⟩ := appB (ys := num8 l[k].n) Ho3.out (srcRow (c := 8) hblk.cells hl.symm) (by omega) hlo3
        refine AtApp.go hr rfl rfl rfl rfl ?_
        have Ho4 := Lib.hid ho4
        have hB6 := hB5.trans (Own.below Ho3.out ha4 hlo3)
        clear hr ho4 ha4
        go_wp2_with fail
        go_roundw
        case rel => exact ⟨k + 1, by omega, by go_num, hB6, by rw [Hst.out, Heb.out]; exact Ho4.out, by rw [Hat.out, Hok1.out]⟩
        case measure => simp [intOf]; omega
      · rw [his] at hB0 hbox c0
        have hok1 : l[k].ok = mayB l[k].v := by simp [Pt.ok, his]
        have eb : l[k].bytes = encV l[k].v := by simp [Pt.bytes, his]
        have Hok1 := Lib.hid hok1
        have Heb := Lib.hid eb
        clear hok1 eb his
        go_wp2_with fail
        refine Check_any l[k].v _ (by omega) _ fun w1 hB1 => ?_
        have hB2 := hB0.trans (hB1.mono hB0.size)
        have hbox1 := hbox.below hB1 hbox.lt
        obtain ⟨z0, z1, z2, z3, z4⟩ := hbox1.cells.c5
        simp only [Nat.zero_add] at z1 z2 z3 z4
        have hB3 := hB.trans (hB2.mono hs1)
        have Ho3 := Lib.hid (Ho.out.kept hB2)
        have hlo3 := Nat.le_trans hs1 hB2.size
        clear hbox hB0 hB1 hB2
        cases hm : mayB l[k].v
        · have Hmm := Lib.hid hm
          clear hm
          have hno2 : l.all Pt.ok = false := by
            rw [List.all_eq_false]
            exact ⟨l[k], Hm.out, by rw [Hok1.out, Hmm.out]; simp⟩
          have hr := Hno.out hno2 _ hB3
          clear hno2
          go_wp2_with fail
          exact fin hr rfl
        · have Hmm := Lib.hid hm
          clear hm
          go_wp2_with fail
          refine written_any w.heap.size _ _ l[k].v _ Ho3.out hlo3 Hmm.out (by omega) (by omega) _ fun w4 v4 ho4 ha4 => ?_
          have Ho4 := Lib.hid ho4
          have hB6 := hB3.trans (Own.below Ho3.out ha4 hlo3)
          clear ho4 ha4
          go_wp2_with fail
          go_roundw
          case rel => exact ⟨k + 1, by omega, by go_num, hB6, by rw [Hst.out, Heb.out]; exact Ho4.out, by rw [Hat.out, Hok1.out, Hmm.out]⟩
          case measure => simp [intOf]; omega
    · have ho := Ho.out
      have hok := Hok.out
      rw [List.take_of_length_le (by omega)] at ho hok
      have hr := Hyes.out hok _ _ hB ho
      clear ho hok
      go_wp2_with fail
      first | exact hr | exact fin hr rfl
end Go.Proofs.Ytomclldnoockcaa
