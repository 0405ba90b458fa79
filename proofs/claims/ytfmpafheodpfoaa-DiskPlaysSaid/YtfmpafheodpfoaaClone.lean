/- slices.Clone of bytes. -/
import Derived.Test.YtfmpafheodpfoaaOwnB
import Derived.Lib.SliceRun
import Derived.Deep.DrawnRows
namespace Go.Proofs.Ytfmpafheodpfoaa
open Go.RowKit
attribute [local go_sem ↓] Go.wp_at_zero Go.wp_at_succ

set_option maxRecDepth 100000 in
set_option maxHeartbeats 2000000 in
theorem Clone_any (lo klo khi : Nat) (l : List UInt8) (v : Value) (w : World) (hk : Bytes klo khi w v l) (hlo : lo ≤ w.heap.size) (hkhi : khi ≤ w.heap.size) (hlen : l.length ≤ 100000000)
    (R : Ending → World → Prop) (hR : ∀ w' v', Below w.heap.size w w' → OwnB lo w' v' l → R (.returned v') w') : Calls Try.prog 33 #[v] w R := by
  rcases hk.cases with ⟨rfl, ao, cap, rfl, -, hn⟩ | ⟨hp, b, off, cap, rfl, hle, hle2, hb1, hb2, hc⟩
  · cases ao with
    | none =>
      cases hn rfl
      have hq := fun w => Lib.run_eql_slice_nil (P := Try.prog) w 30 5 none 0 0 0 0 Try.underlying30
      go_enter Try.func33, Try.ntmps33
      go_wp2_with (at_builtin; refine AtApp.of ?_)
      first | exact hR _ _ (Below.refl _ _) (Own.nil _ _ _ _ _) | exact fin (hR _ _ (Below.refl _ _) (Own.nil _ _ _ _ _)) rfl
    | some a =>
      have hq := fun w => Lib.run_eql_slice_nil (P := Try.prog) w 30 5 (some a) 0 cap 0 0 Try.underlying30
      have Hk := Lib.hid hk
      clear hk
      go_enter Try.func33, Try.ntmps33
      go_wp2_with (at_builtin; refine AtApp.of ?_)
      have hB1 : Below w.heap.size w (w.alloc (.cells #[] 5)) := (Below.refl _ _).alloc (Nat.le_refl _) _
      obtain ⟨v2, w2, hr, ho2, ha2⟩ := appB (lo := w.heap.size) (ys := []) (Own.made bE 5 1 w.heap.size w rfl (Nat.le_refl _)) (Src.ofSl (Hk.out.below (flat_loc _) hB1 hkhi) (fun _ => rfl) (fun x u hu => by simp [bE] at hu; subst hu; rfl) Try.underlying30) (by simp) hB1.size
      refine AtApp.go hr rfl rfl rfl rfl ?_
      have hB2 : Below w.heap.size w w2 := hB1.trans (ha2.below hB1.size (fun k e => by simp [Value.ownBlock] at e; omega))
      have ho3 : OwnB lo w2 v2 [] := OwnB.mono ho2 hlo
      clear hr ho2 ha2
      go_wp2
      exact fin (hR _ _ hB2 ho3) rfl
  · have Hk := Lib.hid hk
    clear hk hc
    have hq := fun w => Lib.run_eql_slice_nil (P := Try.prog) w 30 5 (some ⟨b, off, none⟩) l.length cap 0 0 Try.underlying30
    go_enter Try.func33, Try.ntmps33
    go_wp2_with (at_builtin; refine AtApp.of ?_)
    have hB1 : Below w.heap.size w (w.alloc (.cells #[] 5)) := (Below.refl _ _).alloc (Nat.le_refl _) _
    obtain ⟨v2, w2, hr, ho2, ha2⟩ := appB (lo := w.heap.size) (ys := l) (Own.made bE 5 1 w.heap.size w rfl (Nat.le_refl _)) (Src.ofSl (Hk.out.below (flat_loc _) hB1 hkhi) (fun _ => rfl) (fun x u hu => by simp [bE] at hu; subst hu; rfl) Try.underlying30) (by simp; omega) hB1.size
    refine AtApp.go hr rfl rfl rfl rfl ?_
    have hB2 : Below w.heap.size w w2 := hB1.trans (ha2.below hB1.size (fun k e => by simp [Value.ownBlock] at e; omega))
    have ho3 : OwnB lo w2 v2 l := OwnB.mono ho2 hlo
    clear hr ho2 ha2
    go_wp2
    exact fin (hR _ _ hB2 ho3) rfl
end Go.Proofs.Ytfmpafheodpfoaa
