/- Trees: Put and Get. -/
import Derived.Test.YtmlcnfomiemdpaaTreeF
import Derived.Test.YtmlcnfomiemdpaaOwnB
import Derived.Lib.SliceRun
namespace Go.Proofs.Ytmlcnfomiemdpaa
open Go.RowKit
attribute [local go_sem ↓] Go.wp_at_zero Go.wp_at_succ

set_option maxRecDepth 100000 in
set_option maxHeartbeats 2000000 in
theorem Clone_any (lo klo khi : Nat) (l : List UInt8) (v : Value) (w : World) (hk : Bytes klo khi w v l) (hlo : lo ≤ w.heap.size) (hkhi : khi ≤ w.heap.size) (hlen : l.length ≤ 100000000)
    (R : Ending → World → Prop) (hR : ∀ w' v', Below w.heap.size w w' → OwnB lo w' v' l → R (.returned v') w') : Calls Try.prog 34 #[v] w R := by
  rcases hk.cases with ⟨rfl, ao, cap, rfl, -, hn⟩ | ⟨hp, b, off, cap, rfl, hle, hle2, hb1, hb2, hc⟩
  · cases ao with
    | none =>
      cases hn rfl
      have hq := fun w => Lib.run_eql_slice_nil (P := Try.prog) w 30 5 none 0 0 0 0 Try.underlying30
      go_enter Try.func34, Try.ntmps34
      go_wp2_with (at_builtin; refine AtApp.of ?_)
      first | exact hR _ _ (Below.refl _ _) (Own.nil _ _ _ _ _) | exact fin (hR _ _ (Below.refl _ _) (Own.nil _ _ _ _ _)) rfl
    | some a =>
      have hq := fun w => Lib.run_eql_slice_nil (P := Try.prog) w 30 5 (some a) 0 cap 0 0 Try.underlying30
      have Hk := Lib.hid hk
      clear hk
      go_enter Try.func34, Try.ntmps34
      go_wp2_with (at_builtin; refine AtApp.of ?_)
      have hB1 : Below w.heap.size w (w.alloc (.cells #[] 5)) := (Below.refl _ _).alloc (Nat.le_refl _) _
      obtain ⟨v2, w2, hr, ho2, ha2⟩ := appB (lo := w.heap.size) (ys := []) (Own.made bE 5 1 w.heap.size w rfl (Nat.le_refl _)) (Src.ofSl (Hk.out.below (flat_loc _) hB1 hkhi) (fun _ => rfl) (fun x u hu => by simp [bE] at hu; subst hu; rfl) Try.underlying30) (by simp) hB1.size
      refine AtApp.go hr rfl rfl rfl rfl ?_
      have hB2 : Below w.heap.size w w2 := hB1.trans (ha2.below hB1.size (fun k e => by simp [Value.ownBlock] at e; omega))
      have ho3 : OwnB lo w2 v2 [] := OwnB.mono ho2 hlo
      clear hr ho2 ha2
      go_wp2
      exact fin (hR _ _ hB2 ho3) rfl
  · have Hk := Lib.hid hk
    clear hk hc
    have hq := fun w => Lib.run_eql_slice_nil (P := Try.prog) w 30 5 (some ⟨b, off, none⟩) l.length cap 0 0 Try.underlying30
    go_enter Try.func34, Try.ntmps34
    go_wp2_with (at_builtin; refine AtApp.of ?_)
    have hB1 : Below w.heap.size w (w.alloc (.cells #[] 5)) := (Below.refl _ _).alloc (Nat.le_refl _) _
    obtain ⟨v2, w2, hr, ho2, ha2⟩ := appB (lo := w.heap.size) (ys := l) (Own.made bE 5 1 w.heap.size w rfl (Nat.le_refl _)) (Src.ofSl (Hk.out.below (flat_loc _) hB1 hkhi) (fun _ => rfl) (fun x u hu => by simp [bE] at hu; subst hu; rfl) Try.underlying30) (by simp; omega) hB1.size
    refine AtApp.go hr rfl rfl rfl rfl ?_
    have hB2 : Below w.heap.size w w2 := hB1.trans (ha2.below hB1.size (fun k e => by simp [Value.ownBlock] at e; omega))
    have ho3 : OwnB lo w2 v2 l := OwnB.mono ho2 hlo
    clear hr ho2 ha2
    go_wp2
    exact fin (hR _ _ hB2 ho3) rfl

set_option maxRecDepth 100000 in
theorem root_any (B : Nat → Prop) (lo : Nat) (t : T) (p : Value) (w : World) (h : Tr B lo w t p) (R : Ending → World → Prop) (hR : ∀ q, Tn B lo w t (.pointer q) → R (.returned (.pointer q)) w) : Calls Try.prog 30 #[p] w R := by
  rcases h with ⟨rfl, rfl⟩ | ⟨b, q, rfl, hx, hc, ht⟩
  · have hr := hR none rfl
    go_enter Try.func30, Try.ntmps30
    go_wp2
    exact (rfl : Value.pointer none = Value.pointer none)
  · have hr := hR q ht
    go_enter Try.func30, Try.ntmps30
    go_wp2
    exact ht

set_option maxRecDepth 100000 in
set_option maxHeartbeats 2000000 in
theorem Put_any (B : Nat → Prop) (lo klo khi vlo vhi : Nat) (t : T) (k v : List UInt8) (p kv vv : Value) (w : World) (hB : ∀ b, B b → b < lo) (hlo : lo ≤ w.heap.size) (ht : Tr B lo w t p) (hk : Bytes klo khi w kv k) (hv : Bytes vlo vhi w vv v)
    (hkhi : khi ≤ w.heap.size) (hvhi : vhi ≤ w.heap.size) (hm : t.many ≤ 1000000)
    (R : Ending → World → Prop) (hbad : 4096 < k.length ∨ 65536 < v.length → R (.returned (.tuple #[.pointer none, .int .i64 100])) w)
    (hok : k.length ≤ 4096 → v.length ≤ 65536 → ∀ w' b, Below w.heap.size w w' → lo ≤ w'.heap.size → Tr B lo w' (t.put k v) (.pointer (some b)) → R (.returned (.tuple #[.pointer (some b), .int .i64 0])) w') :
    Calls Try.prog 10 #[p, kv, vv] w R := by
  have Hk := Lib.hid hk
  have Hv := Lib.hid hv
  obtain ⟨ak, ck, rfl, -, -, -⟩ := hk.form
  obtain ⟨av, cv, rfl, -, -, -⟩ := hv.form
  clear hk hv
  go_enter Try.func10, Try.ntmps10
  go_wp2_with fail
  refine root_any B lo t p _ ht _ fun q hn => ?_
  by_cases g1 : 4096 < k.length
  · have hbad' := hbad (.inl g1)
    go_wp2_with fail
    all_goals first | exact hbad' | exact fin hbad' rfl
  by_cases g2 : 65536 < v.length
  · have hbad' := hbad (.inr g2)
    go_wp2_with fail
    all_goals first | exact hbad' | exact fin hbad' rfl
  have hok' := hok (by omega) (by omega)
  clear hbad hok
  go_wp2_with fail
  refine many_any _ t _ _ hn _ ?_
  go_wp2_with fail
  refine Clone_any w.heap.size klo khi k _ _ Hk.out (Nat.le_refl _) hkhi (by omega) _ fun w1 k1 hB1 ho1 => ?_
  go_wp2_with fail
  refine Clone_any w1.heap.size vlo vhi v _ _ (Hv.out.below (flat_loc _) hB1 hvhi) (Nat.le_refl _) (Nat.le_trans hvhi hB1.size) (by omega) _ fun w2 v2 hB2 ho2 => ?_
  have hB12 := hB1.trans (hB2.mono hB1.size)
  have hlo1 := Nat.le_trans hlo hB1.size
  have hlo2 := Nat.le_trans hlo hB12.size
  go_wp2_with fail
  refine put_any B lo k v hB t _ _ _ _ hlo2 (Tn.step hn hB hlo hB12) (Ty.step (Ty.own (ho1.mono hlo)) hB hlo1 hB2) (Ty.own (ho2.mono hlo1)) (by omega) _ fun w3 q3 hB3 hlo3 ht3 => ?_
  have hB13 := hB12.trans (hB3.mono hB12.size)
  go_wp2_with fail
  have hb4 : Below w3.heap.size w3 (w3.alloc (.cells #[.pointer q3] 52)) := (Below.refl _ _).alloc (Nat.le_refl _) _
  have hc4 := (CellsAt.new w3 [.pointer q3] 52).c1
  have hlo4 := Nat.le_trans hlo3 hb4.size
  have hr := hok' _ ⟨w3.heap.size, 0, none⟩ (hB13.trans (hb4.mono hB13.size)) hlo4 (.inr ⟨w3.heap.size, q3, rfl, .inr ⟨hlo3, by simp⟩, hc4, Tn.step ht3 hB hlo3 hb4⟩)
  first | exact hr | exact fin hr rfl

set_option maxRecDepth 100000 in
set_option maxHeartbeats 2000000 in
theorem Get_any (B : Nat → Prop) (lo klo khi : Nat) (t : T) (k : List UInt8) (p kv : Value) (w : World) (hB : ∀ b, B b → b < lo) (hlo : lo ≤ w.heap.size) (ht : Tr B lo w t p) (hk : Bytes klo khi w kv k)
    (R : Ending → World → Prop) (hno : t.find k = .nil → R (.returned (.tuple #[.slice none 0 0, .bool false])) w)
    (hyes : ∀ k' v' l r, t.find k = .node k' v' l r → v'.length ≤ 100000000 → ∀ w' v2, Below w.heap.size w w' → OwnB w.heap.size w' v2 v' → R (.returned (.tuple #[v2, .bool true])) w')
    (hlen : ∀ k' v' l r, t.find k = .node k' v' l r → v'.length ≤ 100000000) :
    Calls Try.prog 11 #[p, kv] w R := by
  have Hk := Lib.hid hk
  clear hk
  go_enter Try.func11, Try.ntmps11
  go_wp2_with fail
  refine root_any B lo t p _ ht _ fun q hn => ?_
  go_wp2_with fail
  refine find_any B lo klo khi k t _ _ _ hn Hk.out _ fun p' hf => ?_
  cases hfd : t.find k with
  | nil =>
    rw [hfd] at hf
    cases hf
    have hr := hno hfd
    go_wp2_with fail
    all_goals first | exact hr | exact fin hr rfl
  | node k' v' l r =>
    rw [hfd] at hf
    have hy := hyes _ _ _ _ hfd (hlen _ _ _ _ hfd)
    have hl := hlen _ _ _ _ hfd
    obtain ⟨b, kv', vv', ql, qr, rfl, hb, hc, -, hv', -, -⟩ := Tn.open hf
    obtain ⟨-, c1, -, -, -, -⟩ := hc.c6
    have hbv := hv'.bytes (fun b hb => Xs.lt hB hlo hb)
    have Hbv := Lib.hid hbv
    obtain ⟨av, cv, rfl, -, -, -⟩ := hbv.form
    clear hc hbv hv' hyes hno hlen
    go_wp2_with fail
    refine Clone_any w.heap.size 0 w.heap.size v' _ _ Hbv.out (Nat.le_refl _) (Nat.le_refl _) hl _ fun w1 v1 hB1 ho1 => ?_
    go_wp2_with fail
    have hr := hy _ _ hB1 ho1
    first | exact hr | exact fin hr rfl
end Go.Proofs.Ytmlcnfomiemdpaa
