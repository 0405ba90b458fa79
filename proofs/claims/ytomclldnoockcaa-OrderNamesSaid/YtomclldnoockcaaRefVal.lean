/- The document's value, as bytes. -/
import Derived.Test.YtomclldnoockcaaRefNum
namespace Go.Proofs.Ytomclldnoockcaa
open Go.RowKit

theorem esc_take_succ (s : List UInt8) (k : Nat) (h : k < s.length) : (s.take (k + 1)).flatMap esc1 = (s.take k).flatMap esc1 ++ esc1 s[k] := by
  rw [List.take_succ_eq_append_getElem h, List.flatMap_append]
  simp only [List.flatMap_cons, List.flatMap_nil, List.append_nil]
theorem esc_take_length (s : List UInt8) (k : Nat) : ((s.take k).flatMap esc1).length ≤ 2 * s.length := by
  have h1 := escs_length (s.take k)
  have h2 : (s.take k).length ≤ s.length := by rw [List.length_take]; omega
  omega

set_option maxRecDepth 100000 in
set_option maxHeartbeats 4000000 in
theorem refValue_any (v : V) (w : World) (hs : v.s.length ≤ 10000000) (R : Ending → World → Prop)
    (hyes : mayB v = true → ∀ w' v', Below w.heap.size w w' → OwnB w.heap.size w' v' (encV v) → R (.returned (.tuple #[v', .int .i64 0])) w')
    (hno : mayB v = false → ∀ w', Below w.heap.size w w' → R (.returned (.tuple #[.slice none 0 0, .int .i64 10])) w') :
    Calls Try.prog 17 #[.agg #[.int .i64 v.kind, .int .i64 v.n, .string ⟨v.s.toArray⟩]] w R := by
  have hB0 : Below w.heap.size w (w.alloc (.cells #[.int .i64 v.kind, .int .i64 v.n, .string ⟨v.s.toArray⟩] 37)) := (Below.refl _ _).alloc (Nat.le_refl _) _
  have hbox : Blk (w.alloc (.cells #[.int .i64 v.kind, .int .i64 v.n, .string ⟨v.s.toArray⟩] 37)) w.heap.size [.int .i64 v.kind, .int .i64 v.n, .string ⟨v.s.toArray⟩] 37 := Blk.new _ _ _ rfl
  have Hyes := Lib.hid hyes
  have Hno := Lib.hid hno
  clear hyes hno
  go_enter Try.func17, Try.ntmps17
  go_wp2_with fail
  refine May_any v _ (by omega) _ fun w1 hB1 => ?_
  have hB := hB0.trans (hB1.mono hB0.size)
  have hbox1 := hbox.below hB1 hbox.lt
  obtain ⟨z0, z1, z2⟩ := hbox1.cells.c3
  simp only [Nat.zero_add] at z1 z2
  have hzl := hbox1.lt
  have hsz := hB.size
  clear hbox hB0 hB1
  cases hm : mayB v
  · have Hm := Lib.hid hm
    clear hm
    go_wp2_with fail
    exact fin (Hno.out Hm.out _ hB) rfl
  have Hm := Lib.hid hm
  obtain ⟨hk1, hk2⟩ := mayB_kind hm
  have Hyes2 := Lib.hid (Hyes.out hm)
  clear hm Hyes Hno
  have hk3 : v.kind = ((UInt8.ofNat v.kind.toNat).toNat : Int) := by simp; omega
  have Hk := Lib.hid hk3
  clear hk3
  have Hall : Hid (∀ kk : Int, v.kind = kk → OwnB w.heap.size (w1.alloc (.cells #[.int .u8 kk] 5)) (.slice (some ⟨w1.heap.size, 0, none⟩) 1 1) [UInt8.ofNat v.kind.toNat] ∧ Below w.heap.size w (w1.alloc (.cells #[.int .u8 kk] 5)) ∧ Blk (w1.alloc (.cells #[.int .u8 kk] 5)) w.heap.size [.int .i64 v.kind, .int .i64 v.n, .string ⟨v.s.toArray⟩] 37) := by
    intro kk e
    subst e
    have hB2 : Below w1.heap.size w1 (w1.alloc (.cells #[.int .u8 v.kind] 5)) := (Below.refl _ _).alloc (Nat.le_refl _) _
    exact ⟨OwnB.lit1 w.heap.size w1 (UInt8.ofNat v.kind.toNat) Hk.out rfl hsz, hB.trans (hB2.mono hsz), hbox1.below hB2 hzl⟩
  have hwr : IntKind.u8.wrap v.kind = v.kind := by rw [IntKind.wrap_u8]; omega
  have Henc : Hid (∀ l, l = body v → [UInt8.ofNat v.kind.toNat] ++ l = encV v) := fun l e => by rw [e]; rfl
  have hne0 : w.heap.size ≠ w1.heap.size := by omega
  clear Hk
  by_cases e2 : v.kind = 2
  · obtain ⟨ho, hB3, -⟩ := Hall.out 2 e2
    have hn := mayB_bool Hm.out e2
    obtain ⟨hn0, hn1⟩ := hn
    have hn2 : v.n = ((UInt8.ofNat v.n.toNat).toNat : Int) := by simp; omega
    have Hn2 := Lib.hid hn2
    have hwn : IntKind.u8.wrap v.n = v.n := by rw [IntKind.wrap_u8]; omega
    have hsz3 := hB3.size
    have Ho := Lib.hid ho
    clear hn2 ho
    have hb : Hid (body v = [UInt8.ofNat v.n.toNat]) := by simp [Hid, body, e2]
    go_wp2_with (at_builtin; refine AtApp.of ?_)
    obtain ⟨v3, w3, hr, ho3, ha3⟩ := app1x Ho.out (UInt8.ofNat v.n.toNat) Hn2.out (w1.heap.size + 1) (by simp) (by simp) hsz3
    refine AtApp.go hr rfl rfl rfl rfl ?_
    have Ho3 := Lib.hid ho3
    have hB4 := hB3.trans (Own.below Ho.out ha3 hsz3)
    clear hr ho3 ha3
    go_wp2_with fail
    exact fin (Hyes2.out _ v3 hB4 (Henc.out _ hb.out.symm ▸ Ho3.out)) rfl
  by_cases e3 : v.kind = 3 ∨ v.kind = 4 ∨ v.kind = 7
  · have hb : Hid (body v = esc v.s) := by simp [Hid, body, e2, e3]
    clear e2
    rcases e3 with e3 | e3 | e3
    all_goals
      obtain ⟨ho, hB3, hbx⟩ := Hall.out _ e3
      have Ho := Lib.hid ho
      have hsz3 := hB3.size
      obtain ⟨y0, y1, y2⟩ := hbx.cells.c3
      simp only [Nat.zero_add] at y1 y2
      have hbl := hbx.lt
      clear ho
      have Hbx := Lib.hid hbx
      clear hbx
      go_wp2_with fail
      go_loopw [5, 6] (fun t5 t6 wr => ∃ k : Nat, k ≤ v.s.length ∧ t6 = .int .i64 k ∧ Below w.heap.size w wr ∧ OwnB w.heap.size wr t5 ([UInt8.ofNat v.kind.toNat] ++ (v.s.take k).flatMap esc1) ∧ Blk wr w.heap.size [.int .i64 v.kind, .int .i64 v.n, .string ⟨v.s.toArray⟩] 37 ∧ t5.ownBlock ≠ some w.heap.size) (fun _ t6 _ => v.s.length - (intOf t6).toNat)
      case atStart => exact ⟨0, Nat.zero_le _, rfl, hB3, by simpa using Ho.out, Hbx.out, by simp [Value.ownBlock]; omega⟩
      case round =>
        obtain ⟨k, hk, rfl, hBr, hor, hbr, hne⟩ := hrel
        have Hor := Lib.hid hor
        have Hbr := Lib.hid hbr
        have Hne := Lib.hid hne
        obtain ⟨r0, r1, r2⟩ := hbr.cells.c3
        simp only [Nat.zero_add] at r1 r2
        have hrl := hbr.lt
        have hsr := hBr.size
        have hll : ([UInt8.ofNat v.kind.toNat] ++ (v.s.take k).flatMap esc1).length ≤ 20000001 := by
          have := esc_take_length v.s k
          simp only [List.length_append, List.length_cons, List.length_nil]; omega
        clear hor hbr hne
        by_cases hlt : k < v.s.length
        · have Hst := Lib.hid (esc_take_succ v.s k hlt)
          by_cases h0 : v.s[k] = 0
          · have t0 : ((v.s[k].toNat : Int) == 0) = true := by rw [h0]; rfl
            have H0 := Lib.hid (show esc1 v.s[k] = [0, 255] by rw [h0]; rfl)
            clear h0
            go_wp2_with (at_builtin; refine AtApp.of ?_)
            obtain ⟨v4, w4, hr, ho4, ha4⟩ := app2 Hor.out 0 255 (by omega) hsr
            refine AtApp.go hr rfl rfl rfl rfl ?_
            have Ho4 := Lib.hid ho4
            have Hb4 := Lib.hid (ha4.blk Hbr.out Hne.out)
            have Hn4 := Lib.hid (ha4.apart hrl Hne.out)
            have hB4 := hBr.trans (Own.below Hor.out ha4 hsr)
            clear hr ho4 ha4
            go_wp2_with fail
            go_roundw
            case rel => exact ⟨k + 1, by omega, by go_num, hB4, by rw [Hst.out, H0.out, ← List.append_assoc]; exact Ho4.out, Hb4.out, Hn4.out⟩
            case measure => simp [intOf]; omega
          · have t0 : ((v.s[k].toNat : Int) == 0) = false := by
              have : v.s[k].toNat ≠ 0 := fun e => h0 (by rw [← UInt8.toNat_inj]; exact e)
              simp; omega
            have H0 := Lib.hid (show esc1 v.s[k] = [v.s[k]] by simp [esc1, h0])
            clear h0
            go_wp2_with (at_builtin; refine AtApp.of ?_)
            obtain ⟨v4, w4, hr, ho4, ha4⟩ := app1 Hor.out v.s[k] (by omega) hsr
            refine AtApp.go hr rfl rfl rfl rfl ?_
            have Ho4 := Lib.hid ho4
            have Hb4 := Lib.hid (ha4.blk Hbr.out Hne.out)
            have Hn4 := Lib.hid (ha4.apart hrl Hne.out)
            have hB4 := hBr.trans (Own.below Hor.out ha4 hsr)
            clear hr ho4 ha4
            go_wp2_with fail
            go_roundw
            case rel => exact ⟨k + 1, by omega, by go_num, hB4, by rw [Hst.out, H0.out, ← List.append_assoc]; exact Ho4.out, Hb4.out, Hn4.out⟩
            case measure => simp [intOf]; omega
        · have hor := Hor.out
          rw [List.take_of_length_le (by omega)] at hor hll
          have Hor2 := Lib.hid hor
          clear hor Hor
          go_wp2_with (at_builtin; refine AtApp.of ?_)
          obtain ⟨v4, w4, hr, ho4, ha4⟩ := app2 Hor2.out 0 1 (by omega) hsr
          refine AtApp.go hr rfl rfl rfl rfl ?_
          rw [List.append_assoc] at ho4
          have Ho4 := Lib.hid ho4
          have hB4 := hBr.trans (Own.below Hor2.out ha4 hsr)
          clear hr ho4 ha4
          go_wp2_with fail
          exact fin (Hyes2.out _ v4 hB4 (Henc.out _ hb.out.symm ▸ Ho4.out)) rfl
  · have hb : Hid (body v = num8 v.n) := by simp [Hid, body, e2, e3]
    have n3 : v.kind = 1 ∨ v.kind = 5 ∨ v.kind = 6 := by omega
    clear e2 e3
    rcases n3 with e3 | e3 | e3
    all_goals
      obtain ⟨ho, hB3, hbx⟩ := Hall.out _ e3
      have Ho := Lib.hid ho
      have hsz3 := hB3.size
      clear ho
      go_wp2_with (at_builtin; refine AtApp.of ?_)
      refine refNumber_any _ _ _ fun w3 g hB4 ho4 => ?_
      have Ho4 := Lib.hid ho4
      have hB5 := hB3.trans (hB4.mono hsz3)
      have Ho5 := Lib.hid (Ho.out.kept hB4)
      have hsz5 := hB5.size
      have hl := num8_length v.n
      clear ho4 hB4
      go_wp2_with (at_builtin; refine AtApp.of ?_)
      obtain ⟨v6, w6, hr, ho6, ha6⟩ := appB (ys := num8 v.n) Ho5.out (Src.ofSl (OwnB.bytes Ho4.out) (fun _ => rfl) (fun x u hu => by simp only [bE, List.mem_singleton] at hu; subst hu; rfl) Try.underlying22) (by rw [hl]; simp) hsz5
      refine AtApp.go hr rfl rfl rfl rfl ?_
      have Ho6 := Lib.hid ho6
      have hB6 := hB5.trans (Own.below Ho5.out ha6 hsz5)
      clear hr ho6 ha6
      go_wp2_with fail
      exact fin (Hyes2.out _ v6 hB6 (Henc.out _ hb.out.symm ▸ Ho6.out)) rfl
end Go.Proofs.Ytomclldnoockcaa
