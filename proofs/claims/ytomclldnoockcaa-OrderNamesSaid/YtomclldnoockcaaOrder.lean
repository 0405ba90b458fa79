/- The walks of package order that write. -/
import Derived.Test.YtomclldnoockcaaValue
import Derived.Test.YtomclldnoockcaaOrderP
namespace Go.Proofs.Ytomclldnoockcaa
open Go.RowKit

abbrev OwnB := Own bE 5 1
theorem infoB : (Try.prog.info? 5).map (fun i => (i.zero, i.size, i.bytes)) = some (some (.int .u8 0), 1, 1) := by kernel_rfl
theorem appB {w : World} {lo : Nat} {v : Value} {xs ys : List UInt8} (h : OwnB lo w v xs) {x : Value} {tx ty : TypeId} (hs : Src Try.prog 1 tx x ys.length (ys.flatMap bE) w) (hb : xs.length + ys.length ≤ 140737488355328) (hlo : lo ≤ w.heap.size) :
    ∃ v' w', (Builtin.append_ #[22, tx] ty #[v, x]).run Try.prog w = .ok v' w' ∧ OwnB lo w' v' (xs ++ ys) ∧ Appended w v w' v' := by
  obtain ⟨i0, hi, hz0, hz1, hz2⟩ := info_parts infoB
  exact h.app _ _ _ i0 _ 1 Try.underlying22 hi hz0 hz1 hz2 rfl hs (by omega) (Nat.le_refl _) hlo
theorem OwnB.bytes {lo : Nat} {w : World} {v : Value} {xs : List UInt8} (h : OwnB lo w v xs) : Bytes lo w.heap.size w v xs := Sl.ofOwn (fun _ => rfl) h
theorem str {w : World} {lo hi : Nat} {v : Value} {l : List UInt8} (h : Bytes lo hi w v l) : (convert 22 9 v).run Try.prog w = .ok (.string ⟨l.toArray⟩) w :=
  run_ofBytes h _ _ _ Try.underlying22 Try.underlying5 Try.underlying9
/-- Bytes in a new row of the call's own, as what is appended. -/
theorem srcRow {w : World} {b n c : Nat} {ys : List UInt8} (h : CellsAt w b 0 (ys.flatMap bE)) (hn : n = ys.length) : Src Try.prog 1 22 (.slice (some ⟨b, 0, none⟩) n c) ys.length (ys.flatMap bE) w := by
  subst hn
  refine Src.ofSlice w Try.underlying22 _ _ _ _ (by simp [flatMap_bE]) (fun j u hu => by rw [Addr.add_lit]; exact h j u hu) (fun u hu => ?_)
  rw [flatMap_bE] at hu
  obtain ⟨c, -, rfl⟩ := List.mem_map.1 hu
  rfl

/-- One byte, from a new row of one cell. -/
theorem app1x {w : World} {lo : Nat} {v : Value} {xs : List UInt8} (h : OwnB lo w v xs) (c : UInt8) {x : Int} (hx : x = c.toNat) (n : Nat) (hn : n = w.heap.size) (hb : xs.length + 1 ≤ 140737488355328) (hlo : lo ≤ w.heap.size) :
    ∃ v' w', (Builtin.append_ #[22, 22] 22 #[v, .slice (some ⟨n, 0, none⟩) 1 1]).run Try.prog (w.alloc (.cells #[.int .u8 x] 5)) = .ok v' w' ∧ OwnB lo w' v' (xs ++ [c]) ∧ Appended w v w' v' := by
  subst hx hn
  have hB : Below w.heap.size w (w.alloc (.cells #[.int .u8 c.toNat] 5)) := (Below.refl _ _).alloc (Nat.le_refl _) _
  obtain ⟨v', w', hr, ho, ha⟩ := appB (ys := [c]) (h.kept hB) (srcRow (CellsAt.newAt w [.int .u8 c.toNat] 5 rfl) rfl) hb (Nat.le_trans hlo hB.size)
  exact ⟨v', w', hr, ho, (Appended.step v hB).trans ha⟩
theorem app1 {w : World} {lo : Nat} {v : Value} {xs : List UInt8} (h : OwnB lo w v xs) (c : UInt8) (hb : xs.length + 1 ≤ 140737488355328) (hlo : lo ≤ w.heap.size) :
    ∃ v' w', (Builtin.append_ #[22, 22] 22 #[v, .slice (some ⟨w.heap.size, 0, none⟩) 1 1]).run Try.prog (w.alloc (.cells #[.int .u8 c.toNat] 5)) = .ok v' w' ∧ OwnB lo w' v' (xs ++ [c]) ∧ Appended w v w' v' := app1x h c rfl _ rfl hb hlo
theorem app2 {w : World} {lo : Nat} {v : Value} {xs : List UInt8} (h : OwnB lo w v xs) (c d : UInt8) (hb : xs.length + 2 ≤ 140737488355328) (hlo : lo ≤ w.heap.size) :
    ∃ v' w', (Builtin.append_ #[22, 22] 22 #[v, .slice (some ⟨w.heap.size, 0, none⟩) 2 2]).run Try.prog (w.alloc (.cells #[.int .u8 c.toNat, .int .u8 d.toNat] 5)) = .ok v' w' ∧ OwnB lo w' v' (xs ++ [c, d]) ∧ Appended w v w' v' := by
  have hB : Below w.heap.size w (w.alloc (.cells #[.int .u8 c.toNat, .int .u8 d.toNat] 5)) := (Below.refl _ _).alloc (Nat.le_refl _) _
  obtain ⟨v', w', hr, ho, ha⟩ := appB (ys := [c, d]) (h.kept hB) (srcRow (CellsAt.newAt w [.int .u8 c.toNat, .int .u8 d.toNat] 5 rfl) rfl) hb (Nat.le_trans hlo hB.size)
  exact ⟨v', w', hr, ho, (Appended.step v hB).trans ha⟩
theorem esc1_length (c : UInt8) : (esc1 c).length ≤ 2 := by unfold esc1; split <;> simp
theorem escs_length (s : List UInt8) : (s.flatMap esc1).length ≤ 2 * s.length := by
  induction s with
  | nil => simp
  | cons c r ih => have := esc1_length c; simp only [List.flatMap_cons, List.length_append, List.length_cons]; omega

set_option maxRecDepth 100000 in
set_option maxHeartbeats 1000000 in
theorem text_any (lo : Nat) (b : Value) (xs s : List UInt8) (w : World) (h : OwnB lo w b xs) (hlo : lo ≤ w.heap.size) (hs : s.length ≤ 100000000) (hx : xs.length ≤ 100000000) (R : Ending → World → Prop)
    (hR : ∀ w' v', OwnB lo w' v' (xs ++ esc s) → Appended w b w' v' → R (.returned v') w') : Calls Try.prog 40 #[b, .string ⟨s.toArray⟩] w R := by
  obtain ⟨cap, w1, hrun, hB1, hsz, hl1, hl2, hc⟩ := run_toBytes (P := Try.prog) (w := w) s 9 22 5 Try.underlying9 Try.underlying22 Try.underlying5 (by omega)
  have Hc := Lib.hid hc
  have Hrun := Lib.hid hrun
  have Hsz := Lib.hid hsz
  have hb0 := h.lt
  have Hb0 := Lib.hid hb0
  have h1 := h.kept hB1
  have hap := Appended.step b hB1
  clear hc hrun hsz hb0 h
  go_enter Try.func40, Try.ntmps40
  go_wp2_with fail
  rw [Hrun.out]
  go_wp2_with fail
  go_loopw [0, 6, 10] (fun t0 _ t10 wr => ∃ k : Nat, k ≤ s.length ∧ t10 = .int .i64 k ∧ OwnB lo wr t0 (xs ++ (s.take k).flatMap esc1) ∧ Appended w b wr t0 ∧ CellsAt wr w.heap.size 0 (s.map fun c => .int .u8 c.toNat) ∧ t0.ownBlock ≠ some w.heap.size ∧ w.heap.size < wr.heap.size)
    (fun _ _ t10 _ => s.length - (intOf t10).toNat)
  case atStart => exact ⟨0, Nat.zero_le _, rfl, by simpa using h1, hap, Hc.out, fun e => by have := (Hb0.out _ e).2; omega, by rw [Hsz.out]; omega⟩
  case round =>
    obtain ⟨k, hk, rfl, ho, ha, hcr, hne, hrow⟩ := hrel
    have hle := escs_length (s.take k)
    have htk : (s.take k).length ≤ s.length := by rw [List.length_take]; omega
    have hlen : (xs ++ (s.take k).flatMap esc1).length ≤ 400000000 := by rw [List.length_append]; omega
    have hlo2 : lo ≤ wr.heap.size := Nat.le_trans hlo ha.grown.size
    have Hne := Lib.hid hne
    have Ho := Lib.hid ho
    clear hne ho hle htk
    by_cases hlt : k < s.length
    · have h0 := hcr k (.int .u8 s[k].toNat) (by simp [hlt])
      rw [Nat.zero_add] at h0
      have htake := Lib.hid (List.take_succ_eq_append_getElem hlt)
      generalize hc : s[k] = c at *
      have Hk := Lib.hid hc
      clear hc
      by_cases c0 : c = 0
      · have t0 : ((c.toNat : Int) == 0) = true := by rw [c0]; rfl
        have C0 := Lib.hid c0
        clear c0
        go_wp2_with (at_builtin; refine AtApp.of ?_)
        obtain ⟨v2, w2, hr, ho2, ha2⟩ := app1 Ho.out c (by omega) hlo2
        refine AtApp.go hr rfl rfl rfl rfl ?_
        have hlo3 := Nat.le_trans hlo2 ha2.grown.size
        have Ho2 := Lib.hid ho2
        clear hr ho2
        go_wp2_with (at_builtin; refine AtApp.of ?_)
        obtain ⟨v3, w3, hr, ho3, ha3⟩ := app1 Ho2.out 255 (by simp only [List.length_append, List.length_cons, List.length_nil] at *; omega) hlo3
        refine AtApp.go hr rfl rfl rfl rfl ?_
        have ha4 := ha.trans (ha2.trans ha3)
        have hcr3 := (hcr.appended ha2 hrow Hne.out).appended ha3 (Nat.lt_of_lt_of_le hrow ha2.grown.size) (ha2.apart hrow Hne.out)
        have hne3 := Lib.hid (ha3.apart (Nat.lt_of_lt_of_le hrow ha2.grown.size) (ha2.apart hrow Hne.out))
        have hrow3 := Nat.lt_of_lt_of_le hrow (Nat.le_trans ha2.grown.size ha3.grown.size)
        have Ho3 := Lib.hid ho3
        clear hr ho3 ha3 ha2 Ho2 hcr ha
        go_wp2
        go_roundw
        case rel => exact ⟨k + 1, by omega, by go_num, by
          have := Ho3.out
          rw [htake.out, List.flatMap_append, List.flatMap_singleton, show esc1 c = [c, 255] by rw [C0.out]; rfl, ← List.append_assoc]
          simpa using this, ha4, hcr3, hne3.out, hrow3⟩
        case measure => simp [intOf]; omega
      · have t0 : ((c.toNat : Int) == 0) = false := by
          have : c.toNat ≠ 0 := fun e => c0 (by rw [← UInt8.toNat_inj]; simpa using e)
          simp; omega
        have C0 := Lib.hid c0
        clear c0
        go_wp2_with (at_builtin; refine AtApp.of ?_)
        obtain ⟨v2, w2, hr, ho2, ha2⟩ := app1 Ho.out c (by omega) hlo2
        refine AtApp.go hr rfl rfl rfl rfl ?_
        have ha4 := ha.trans ha2
        have hcr3 := hcr.appended ha2 hrow Hne.out
        have hne3 := Lib.hid (ha2.apart hrow Hne.out)
        have hrow3 := Nat.lt_of_lt_of_le hrow ha2.grown.size
        have Ho2 := Lib.hid ho2
        clear hr ho2 ha2 hcr ha
        go_wp2
        go_roundw
        case rel => exact ⟨k + 1, by omega, by go_num, by
          have := Ho2.out
          rw [htake.out, List.flatMap_append, List.flatMap_singleton, show esc1 c = [c] by unfold esc1; rw [if_neg C0.out], ← List.append_assoc]
          simpa using this, ha4, hcr3, hne3.out, hrow3⟩
        case measure => simp [intOf]; omega
    · have e : k = s.length := by omega
      subst e
      go_wp2_with (at_builtin; refine AtApp.of ?_)
      obtain ⟨v2, w2, hr, ho2, ha2⟩ := app2 Ho.out 0 1 (by omega) hlo2
      refine AtApp.go hr rfl rfl rfl rfl ?_
      have ha4 := ha.trans ha2
      have Ho2 := Lib.hid ho2
      clear hr ho2 ha2 hcr ha
      go_wp2_with fail
      exact hR _ _ (by
        have := Ho2.out
        rw [List.take_length, List.append_assoc] at this
        exact this) ha4
end Go.Proofs.Ytomclldnoockcaa
