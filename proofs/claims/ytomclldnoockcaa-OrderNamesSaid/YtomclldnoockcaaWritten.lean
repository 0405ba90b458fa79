/- order.written, order.Value, order.Key: values and keys as bytes. -/
import Derived.Test.YtomclldnoockcaaNumber
namespace Go.Proofs.Ytomclldnoockcaa
open Go.RowKit

theorem esc_length (s : List UInt8) : (esc s).length ≤ 2 * s.length + 2 := by
  have := escs_length s
  simp only [esc, List.length_append, List.length_cons, List.length_nil]; omega
theorem body_length (v : V) : (body v).length ≤ 2 * v.s.length + 8 := by
  unfold body
  split
  · simp
  · split
    · have := esc_length v.s; omega
    · rw [num8_length]; omega
theorem mayB_kind {v : V} (h : mayB v = true) : 1 ≤ v.kind ∧ v.kind ≤ 7 := by
  unfold mayB at h
  repeat' split at h
  all_goals first | (simp at h; done) | omega
theorem mayB_bool {v : V} (h : mayB v = true) (h2 : v.kind = 2) : 0 ≤ v.n ∧ v.n ≤ 1 := by
  simp [mayB, h2] at h
  omega

set_option maxRecDepth 100000 in
set_option maxHeartbeats 2000000 in
theorem written_any (lo : Nat) (b : Value) (xs : List UInt8) (v : V) (w : World) (h : OwnB lo w b xs) (hlo : lo ≤ w.heap.size) (hm : mayB v = true) (hs : v.s.length ≤ 10000000) (hx : xs.length ≤ 10000000) (R : Ending → World → Prop)
    (hR : ∀ w' v', OwnB lo w' v' (xs ++ encV v) → Appended w b w' v' → R (.returned v') w') :
    Calls Try.prog 28 #[b, .agg #[.int .i64 v.kind, .int .i64 v.n, .string ⟨v.s.toArray⟩]] w R := by
  obtain ⟨hk1, hk2⟩ := mayB_kind hm
  have hk3 : v.kind = ((UInt8.ofNat v.kind.toNat).toNat : Int) := by simp; omega
  have Hk := Lib.hid hk3
  have Hbool := Lib.hid (fun e => mayB_bool hm e)
  have hB0 : Below w.heap.size w (w.alloc (.cells #[.int .i64 v.kind, .int .i64 v.n, .string ⟨v.s.toArray⟩] 37)) := (Below.refl _ _).alloc (Nat.le_refl _) _
  have h0 := Lib.hid (h.kept hB0)
  have Hlt := Lib.hid h.lt
  have hbox : Blk (w.alloc (.cells #[.int .i64 v.kind, .int .i64 v.n, .string ⟨v.s.toArray⟩] 37)) w.heap.size [.int .i64 v.kind, .int .i64 v.n, .string ⟨v.s.toArray⟩] 37 := Blk.new _ _ _ rfl
  have hap0 := Appended.step b hB0
  have hne0 : b.ownBlock ≠ some w.heap.size := fun e => by have := (Hlt.out _ e).2; omega
  clear h hk3 hm
  go_enter Try.func28, Try.ntmps28
  go_wp2_with (at_builtin; refine AtApp.of ?_)
  obtain ⟨v2, w2, hr, ho2, ha2⟩ := app1x h0.out (UInt8.ofNat v.kind.toNat) Hk.out (w.heap.size + 1) (by simp) (by omega) (by simp; omega)
  refine AtApp.go hr rfl rfl rfl rfl ?_
  have hbox2 := ha2.blk hbox hne0
  have ha := hap0.trans ha2
  have Ho := Lib.hid ho2
  have hlo2 : lo ≤ w2.heap.size := Nat.le_trans (Nat.le_trans hlo hB0.size) ha2.grown.size
  obtain ⟨z0, z1, z2⟩ := hbox2.cells.c3
  simp only [Nat.zero_add] at z1 z2
  have hzl := hbox2.lt
  have hlen : (xs ++ [UInt8.ofNat v.kind.toNat]).length ≤ 10000001 := by simp; omega
  have Henc : Hid (∀ l, l = body v → (xs ++ [UInt8.ofNat v.kind.toNat]) ++ l = xs ++ encV v) := fun l e => by rw [e]; simp [encV]
  clear hr ho2 ha2 hbox hap0 hB0 h0
  by_cases e2 : v.kind = 2
  · have hn := Hbool.out e2
    have hn2 : v.n = ((UInt8.ofNat v.n.toNat).toNat : Int) := by simp; omega
    obtain ⟨hn0, hn1⟩ := hn
    have Hn2 := Lib.hid hn2
    clear hn2
    have hb : Hid (body v = [UInt8.ofNat v.n.toNat]) := by simp [Hid, body, e2]
    go_wp2_with (at_builtin; refine AtApp.of ?_)
    obtain ⟨v3, w3, hr, ho3, ha3⟩ := app1x Ho.out (UInt8.ofNat v.n.toNat) Hn2.out w2.heap.size rfl (by omega) hlo2
    refine AtApp.go hr rfl rfl rfl rfl ?_
    have Ho3 := Lib.hid ho3
    have ha4 := ha.trans ha3
    clear hr ho3 ha3
    go_wp2
    exact fin (hR _ v3 (Henc.out _ hb.out.symm ▸ Ho3.out) ha4) rfl
  by_cases e3 : v.kind = 3 ∨ v.kind = 4 ∨ v.kind = 7
  · have hb : Hid (body v = esc v.s) := by simp [Hid, body, e2, e3]
    have key : ∀ (K : Prop), (∀ w3 v3, OwnB lo w3 v3 (xs ++ encV v) → Appended w b w3 v3 → K) → K ∨ True := fun _ _ => .inr trivial
    clear key
    rcases e3 with e3 | e3 | e3
    all_goals
      go_wp2_with fail
      refine text_any lo _ _ v.s _ Ho.out hlo2 (by omega) (by omega) _ fun w3 v3 ho3 ha3 => ?_
      have Ho3 := Lib.hid ho3
      have ha4 := ha.trans ha3
      clear ho3 ha3
      go_wp2
      exact fin (hR _ v3 (Henc.out _ hb.out.symm ▸ Ho3.out) ha4) rfl
  · have hb : Hid (body v = num8 v.n) := by simp [Hid, body, e2, e3]
    have n3 : (v.kind == 3) = false := by simp; omega
    have n4 : (v.kind == 4) = false := by simp; omega
    have n7 : (v.kind == 7) = false := by simp; omega
    have n2 : (v.kind == 2) = false := by simp; omega
    clear e2 e3
    go_wp2_with (at_builtin; refine AtApp.of ?_)
    refine Number_any _ _ _ fun w3 g hB3 hg hblk => ?_
    have Ho3 := Lib.hid (Ho.out.kept hB3)
    have ha3 := ha.trans (Appended.step _ hB3)
    have hl := num8_length v.n
    have hlo3 := Nat.le_trans hlo2 hB3.size
    clear ha hB3 hbox2 z0 z1 z2
    go_wp2_with (at_builtin; refine AtApp.of ?_)
    obtain ⟨v4, w4, hr, ho4, ha4⟩ := appB (ys := num8 v.n) Ho3.out (srcRow (c := 8) hblk.cells hl.symm) (by omega) hlo3
    refine AtApp.go hr rfl rfl rfl rfl ?_
    have Ho4 := Lib.hid ho4
    have ha5 := ha3.trans ha4
    clear hr ho4 ha4
    go_wp2
    exact fin (hR _ v4 (Henc.out _ hb.out.symm ▸ Ho4.out) ha5) rfl

set_option maxRecDepth 100000 in
set_option maxHeartbeats 2000000 in
/-- order.Value: a value's bytes, in memory of the call's own. -/
theorem Value_any (v : V) (w : World) (hs : v.s.length ≤ 10000000) (R : Ending → World → Prop)
    (hyes : mayB v = true → ∀ w' v', Below w.heap.size w w' → OwnB w.heap.size w' v' (encV v) → R (.returned (.tuple #[v', .int .i64 0])) w')
    (hno : mayB v = false → ∀ w', Below w.heap.size w w' → R (.returned (.tuple #[.slice none 0 0, .int .i64 10])) w') :
    Calls Try.prog 16 #[.agg #[.int .i64 v.kind, .int .i64 v.n, .string ⟨v.s.toArray⟩]] w R := by
  have hB0 : Below w.heap.size w (w.alloc (.cells #[.int .i64 v.kind, .int .i64 v.n, .string ⟨v.s.toArray⟩] 37)) := (Below.refl _ _).alloc (Nat.le_refl _) _
  have hbox : Blk (w.alloc (.cells #[.int .i64 v.kind, .int .i64 v.n, .string ⟨v.s.toArray⟩] 37)) w.heap.size [.int .i64 v.kind, .int .i64 v.n, .string ⟨v.s.toArray⟩] 37 := Blk.new _ _ _ rfl
  have Hyes := Lib.hid hyes
  have Hno := Lib.hid hno
  clear hyes hno
  go_enter Try.func16, Try.ntmps16
  go_wp2_with fail
  refine Check_any v _ (by omega) _ fun w1 hB1 => ?_
  have hB := hB0.trans (hB1.mono hB0.size)
  have hbox1 := hbox.below hB1 hbox.lt
  obtain ⟨z0, z1, z2⟩ := hbox1.cells.c3
  simp only [Nat.zero_add] at z1 z2
  have hzl := hbox1.lt
  clear hbox hB0 hB1
  cases hm : mayB v
  · have Hm := Lib.hid hm
    clear hm
    go_wp2_with fail
    exact fin (Hno.out Hm.out _ hB) rfl
  · have Hm := Lib.hid hm
    clear hm
    go_wp2_with fail
    refine written_any w.heap.size _ [] v _ (Own.nil _ _ _ _ _) (Nat.le_of_lt hzl) Hm.out hs (by simp) _ fun w2 v2 ho ha => ?_
    have Ho := Lib.hid ho
    have hB2 := hB.trans (ha.below (Nat.le_of_lt hzl) (fun k e => by simp [Value.ownBlock] at e))
    clear ho ha
    go_wp2_with fail
    exact fin (Hyes.out Hm.out _ v2 hB2 Ho.out) rfl
end Go.Proofs.Ytomclldnoockcaa
