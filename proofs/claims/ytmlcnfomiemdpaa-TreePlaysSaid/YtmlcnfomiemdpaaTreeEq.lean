/- Trees: equal, where both tell the same. -/
import Derived.Test.YtmlcnfomiemdpaaTreeDf
import Derived.Test.YtmlcnfomiemdpaaTreePt
namespace Go.Proofs.Ytmlcnfomiemdpaa
open Go.RowKit
attribute [local go_sem ↓] Go.wp_at_zero Go.wp_at_succ
set_option linter.unusedVariables false
set_option linter.unusedSimpArgs false

theorem getL_self : ∀ (l : PL), Rises l → ∀ x ∈ l, getL x.1 l = some x.2
  | [], _, x, h => by cases h
  | (a, b) :: r, h, x, hx => by
    have h' := List.pairwise_cons.1 h
    rcases List.mem_cons.1 hx with rfl | hx
    · simp [getL, cmpB_self]
    · have hlt := h'.1 x hx
      have hne : ¬ cmpB x.1 a = 0 := fun e => by
        have h1 := cmpB_flip x.1 a
        have h2 : cmpB a x.1 < 0 := hlt
        omega
      simp only [getL]
      rw [if_neg hne]
      exact getL_self r h'.2 x hx
theorem from_nil (t : T) (h : Rises t.toL) : t.from [] = t.toL := by rw [T.from_eq [] t h, high_nil]
theorem diff_same {t u : T} {n m : Nat} (ht : Gr t n) (hu : Gr u m) (e : t.toL = u.toL) : (t.from []).filter (dfP u) = [] := by
  rw [from_nil t ht.rises]
  refine List.filter_eq_nil_iff.2 (fun x hx hp => ?_)
  have h1 := of_decide_eq_true hp
  rw [T.get_eq _ _ hu.rises, ← e] at h1
  exact h1 (getL_self _ ht.rises x hx)
set_option maxRecDepth 100000 in
set_option maxHeartbeats 4000000 in
theorem equal_same (lo n m : Nat) (t u : T) (p pu : Value) (w : World) (hlo : lo ≤ w.heap.size) (ht : Tr Nn lo w t p) (hu : Tr Nn lo w u pu) (gt : Gr t n) (gu : Gr u m) (hn : n ≤ 1000000) (hm : m ≤ 1000000) (e : t.toL = u.toL)
    (R : Ending → World → Prop) (hR : ∀ w', Below w.heap.size w w' → R (.returned (.bool true)) w') : Calls Try.prog 20 #[p, pu] w R := by
  have HR := Lib.hid hR
  have Ht := Lib.hid ht
  have Hu := Lib.hid hu
  have hc : t.many = u.many := by rw [← T.many_toL, ← T.many_toL, e]
  have d1 := diff_same gt gu e
  have d2 := diff_same gu gt e.symm
  have D1 := Lib.hid d1
  have D2 := Lib.hid d2
  have m1 := gt.many
  have m2 := gu.many
  obtain ⟨q1, rfl⟩ := ht.ptr2
  obtain ⟨q2, rfl⟩ := hu.ptr2
  have Gt := Lib.hid gt
  have Gu := Lib.hid gu
  clear hR ht hu d1 d2 e gt gu
  go_enter Try.func20, Try.ntmps20
  go_wp2_with fail
  refine Len_any Nn lo t _ w Ht.out _ ?_
  rw [hc]
  go_wp2_with fail
  refine Len_any Nn lo u _ w Hu.out _ ?_
  go_wp2_with fail
  refine Diff_any lo t u _ _ w hlo Ht.out Hu.out (by omega) Gt.out.len8 _ (fun w1 v1 ps1 hB1 hP1 => ?_)
  rw [D1.out] at hP1
  obtain ⟨p1, c1, rfl⟩ := hP1.form
  have hs1 := hB1.size
  have HB1 := Lib.hid hB1
  have Ht1 := Lib.hid (Ht.out.step (Nn.lt _) hlo hB1)
  have Hu1 := Lib.hid (Hu.out.step (Nn.lt _) hlo hB1)
  clear hB1 hP1
  go_wp2_with fail
  refine Diff_any lo u t _ _ w1 (Nat.le_trans hlo hs1) Hu1.out Ht1.out (by omega) Gu.out.len8 _ (fun w2 v2 ps2 hB2 hP2 => ?_)
  rw [D2.out] at hP2
  obtain ⟨p2, c2, rfl⟩ := hP2.form
  have hr := HR.out w2 (HB1.out.trans (hB2.mono hs1))
  clear hB2 hP2
  go_wp2_with fail
  first | exact hr | exact fin hr rfl
end Go.Proofs.Ytmlcnfomiemdpaa
