/- schema.entities: the iterator over facts' entities. (Printed by sche.py.) -/
import Derived.Test.YtkcpanaojehgiaaSchD
import Derived.Test.YtkcpanaojehgiaaRangeR
import Derived.Test.YtkcpanaojehgiaaSlc
import Derived.Scope
namespace Go.Proofs.Ytkcpanaojehgiaa
open Go.RowKit Go.Shelf
set_option linter.unusedVariables false
set_option linter.unusedSimpArgs false
attribute [local go_sem] Oper.semAt_some

/-- From k on, n facts are of one entity, and no more. -/
structure Grp (l : List Ft) (k n : Nat) : Prop where
  pos : 0 < n
  le : k + n ≤ l.length
  same : ∀ j, j < n → (l.getD (k + j) default).e = (l.getD k default).e
  more : k + n < l.length → (l.getD (k + n) default).e ≠ (l.getD k default).e
theorem size_Ft : ∀ w, (sizeOf (Try.prog.elem 29)).run Try.prog w = .ok 6 w := fun w => by kernel_rfl
def sliceLen : Option Value → Nat
  | some (.slice _ n _) => n
  | _ => 0
theorem drop_getD {α : Type} (l : List α) (d : α) (k j : Nat) : (l.drop k).getD j d = l.getD (k + j) d := by simp [List.getD, List.getElem?_drop]
set_option maxRecDepth 100000 in
set_option maxHeartbeats 8000000 in
theorem ent1_any (m lp kb lo hi : Nat) (l : List Ft) (J : Nat → Nat → World → Prop) (hlen : l.length ≤ 1000000000000000)
    (hc : ∀ p q W, J p q W → ∃ v, W.cell? ⟨kb, 0, none⟩ = some v ∧ W.frozen? ⟨kb, 0, none⟩ = false ∧ Fts lo hi W v (l.drop p))
    (hdrew : ∀ p q W, J p q W → J p q W.drew)
    (hY : ∀ k n W v, J k k W → Grp l k n → Fts lo hi W v ((l.drop k).take n) → YieldAt Fence.wide m Try.prog lp #[v] W (fun e W' => e = .returned (.bool true) ∧ J k (k + n) W'))
    (hst : ∀ p q W v, J p q W → Fts lo hi W v (l.drop q) → J q q (W.setCell ⟨kb, 0, none⟩ v))
    (W0 : World) (hJ0 : J 0 0 W0) :
    CallsIn Fence.wide (m + 1) Try.prog 69 #[.func (.yield lp) #[] #[], .pointer (some ⟨kb, 0, none⟩)] W0 (fun e W' => (∃ v, e = .returned v) ∧ J l.length l.length W') := by
  have Hc := Lib.hid hc
  have Hdrew := Lib.hid hdrew
  have HY := Lib.hid hY
  have Hst := Lib.hid hst
  clear hc hdrew hY hst
  refine callsIn_of_wp Try.func69 rfl trivial ?_ rfl
  simp only [Try.ntmps69, List.size_toArray, List.length_cons, Nat.reduceAdd, Nat.reduceSub, Array.replicate_succ, Array.replicate_zero, List.push_toArray, List.append_toArray, List.nil_append, List.cons_append, List.length_nil]
  refine wpIn_wide.2 ?_
  go_wp2_with fail
  go_loopw [3] (fun _ wr => ∃ (k : Nat), k ≤ l.length ∧ J k k wr) (fun _ wr => sliceLen (wr.cell? ⟨kb, 0, none⟩))
  case atStart => exact ⟨0, Nat.zero_le _, hJ0⟩
  case round =>
    obtain ⟨k, hk, hj⟩ := hrel
    obtain ⟨wo, ewo⟩ : ∃ x, x = wr := ⟨_, rfl⟩
    subst ewo
    have Hj := Lib.hid hj
    obtain ⟨v, hv, hf, hs⟩ := Hc.out k k wo hj
    have HM : Hid (sliceLen (wo.cell? ⟨kb, 0, none⟩) = l.length - k) := by
      obtain ⟨ao, cap, e, -⟩ := hs.form
      show sliceLen _ = _
      rw [hv, e]
      simp [sliceLen]
    obtain ⟨G, hG⟩ : ∃ G, G = l.drop k := ⟨_, rfl⟩
    have hGl : G.length = l.length - k := by rw [hG, List.length_drop]
    have HG := Lib.hid hG
    rw [← hG] at hs
    clear hj hG
    by_cases hlt : k < l.length
    · have hGp : 0 < G.length := by omega
      have hGp' : (0 : Int) < (G.length : Int) := by omega
      have Hs := Lib.hid hs
      have HGl := Lib.hid hGl
      obtain ⟨ao, cap, rfl, hcl, hcm, -, -⟩ := hs.form
      have Hgo := Lib.hid (HG.out ▸ fun j => drop_getD l default k j : ∀ j, G.getD j default = l.getD (k + j) default)
      clear hs hGl
      go_upto_region 1 with fail
      go_wp2_with fail
      go_loopw [3] (fun t3 wr => ∃ (n : Nat), 0 < n ∧ n ≤ G.length ∧ t3 = .int .i64 n ∧ (∀ j, j < n → (G.getD j default).e = (G.getD 0 default).e) ∧ J k k wr) (fun t3 _ => G.length - (intOf t3).toNat)
      case atStart => exact ⟨1, by omega, by omega, rfl, fun j hj => by obtain rfl : j = 0 := by omega
                                                                        rfl, Hj.out⟩
      case round =>
        obtain ⟨n, hn0, hnl, rfl, hsame, hjn⟩ := hrel
        obtain ⟨wi, ewi⟩ : ∃ x, x = wr := ⟨_, rfl⟩
        subst ewi
        have Hjn := Lib.hid hjn
        have Hsame := Lib.hid hsame
        obtain ⟨v', hv', hf', hs'⟩ := Hc.out k k wi hjn
        rw [← HG.out] at hs'
        have Hs' := Lib.hid hs'
        obtain ⟨ao', cap', rfl, hcl', hcm', -, hcc⟩ := hs'.form
        obtain ⟨b, off, rfl, hb1, hb2, hce⟩ := hcc 0 hGp
        obtain ⟨cs, _, hcs, sv, rfl, -⟩ := hce 0 hGp
        obtain ⟨hz0, -⟩ := hcs.f6
        rw [Nat.zero_mul, Nat.add_zero] at hz0
        have hz1 : Hid (G.getD 0 default = G[0]) := Lib.hid (getD_at G _ 0 hGp)
        have c0 := hv'
        have nn0 : (0 : Int) ≤ (n : Int) := by omega
        clear hsame hjn hs' hcs hcc
        by_cases hnG : n < G.length
        · obtain ⟨cs2, _, hcs2, sv2, rfl, -⟩ := hce n hnG
          obtain ⟨hx0, -⟩ := hcs2.f6
          have hx1 : Hid (G.getD n default = G[n]) := Lib.hid (getD_at G _ n hnG)
          have nnl : (n : Int) < (G.length : Int) := by omega
          clear hcs2 hce
          generalize G[0] = z at *
          generalize G[n] = x at *
          by_cases hxz : x.e = z.e
          · have Hxz := Lib.hid hxz
            clear hxz
            rw [Hxz.out] at hx0
            go_upto_region 2 with fail
            refine wp_region_held_drew (S := fun w' => w' = wi.drew) (by kernel_rfl) rfl (fun hHeld => ?_)
            refine wpAnyH_take (i := 0) (v := .int .i64 ((n : Int))) rfl (by kernel_rfl) (by kernel_rfl) (by kernel_rfl) (fun _ _ _ h => h) (Or.inl ⟨by rfl, ?_⟩) hHeld ?_
            · intro w' hSw; subst hSw; go_simp <;> omega
            try simp only [Act.put, List.getElem_toArray, List.getElem_cons_succ, List.getElem_cons_zero, List.setIfInBounds_toArray, List.set_cons_zero, List.set_cons_succ]
            refine wpAnyH_take (i := 1) (v := .slice (some ⟨b, off, none⟩) G.length cap') rfl (by kernel_rfl) (by kernel_rfl) (by kernel_rfl) (fun _ _ _ h => h) (Or.inl ⟨by rfl, ?_⟩) hHeld ?_
            · intro w' hSw; subst hSw; have kx := c0; go_simp
            try simp only [Act.put, List.getElem_toArray, List.getElem_cons_succ, List.getElem_cons_zero, List.setIfInBounds_toArray, List.set_cons_zero, List.set_cons_succ]
            refine wpAnyH_take (i := 2) (v := .int .i64 ((G.length : Int))) rfl (by kernel_rfl) (by kernel_rfl) (by kernel_rfl) (fun _ _ _ h => h) (Or.inl ⟨by rfl, ?_⟩) hHeld ?_
            · intro w' hSw; subst hSw; go_simp <;> omega
            try simp only [Act.put, List.getElem_toArray, List.getElem_cons_succ, List.getElem_cons_zero, List.setIfInBounds_toArray, List.set_cons_zero, List.set_cons_succ]
            refine wpAnyH_take (i := 3) (v := .bool true) rfl (by kernel_rfl) (by kernel_rfl) (by kernel_rfl) (fun _ _ _ h => h) (Or.inl ⟨by rfl, ?_⟩) hHeld ?_
            · intro w' hSw; subst hSw; go_simp <;> omega
            try simp only [Act.put, List.getElem_toArray, List.getElem_cons_succ, List.getElem_cons_zero, List.setIfInBounds_toArray, List.set_cons_zero, List.set_cons_succ]
            refine wpAnyH_take (i := 4) (v := .bool true) rfl (by kernel_rfl) (by kernel_rfl) (by kernel_rfl) (fun _ _ _ h => h) (Or.inl ⟨by rfl, ?_⟩) hHeld ?_
            · intro w' hSw; subst hSw; go_simp <;> omega
            try simp only [Act.put, List.getElem_toArray, List.getElem_cons_succ, List.getElem_cons_zero, List.setIfInBounds_toArray, List.set_cons_zero, List.set_cons_succ]
            refine wpAnyH_take (i := 5) (v := .slice (some ⟨b, off, none⟩) G.length cap') rfl (by kernel_rfl) (by kernel_rfl) (by kernel_rfl) (fun _ _ _ h => h) (Or.inl ⟨by rfl, ?_⟩) hHeld ?_
            · intro w' hSw; subst hSw; have kx := c0; go_simp
            try simp only [Act.put, List.getElem_toArray, List.getElem_cons_succ, List.getElem_cons_zero, List.setIfInBounds_toArray, List.set_cons_zero, List.set_cons_succ]
            refine wpAnyH_take (i := 6) (v := .int .i64 ((n : Int))) rfl (by kernel_rfl) (by kernel_rfl) (by kernel_rfl) (fun _ _ _ h => h) (Or.inl ⟨by rfl, ?_⟩) hHeld ?_
            · intro w' hSw; subst hSw; go_simp <;> omega
            try simp only [Act.put, List.getElem_toArray, List.getElem_cons_succ, List.getElem_cons_zero, List.setIfInBounds_toArray, List.set_cons_zero, List.set_cons_succ]
            refine wpAnyH_take (i := 7) (v := .pointer (some ⟨b, off + n * 6, none⟩)) rfl (by kernel_rfl) (by kernel_rfl) (by kernel_rfl) (fun _ _ _ h => h) (Or.inl ⟨by rfl, ?_⟩) hHeld ?_
            · intro w' hSw; subst hSw; go_simp <;> omega
            try simp only [Act.put, List.getElem_toArray, List.getElem_cons_succ, List.getElem_cons_zero, List.setIfInBounds_toArray, List.set_cons_zero, List.set_cons_succ]
            refine wpAnyH_take (i := 8) (v := .pointer (some ⟨b, off + n * 6, none⟩)) rfl (by kernel_rfl) (by kernel_rfl) (by kernel_rfl) (fun _ _ _ h => h) (Or.inl ⟨by rfl, ?_⟩) hHeld ?_
            · intro w' hSw; subst hSw; go_simp <;> omega
            try simp only [Act.put, List.getElem_toArray, List.getElem_cons_succ, List.getElem_cons_zero, List.setIfInBounds_toArray, List.set_cons_zero, List.set_cons_succ]
            refine wpAnyH_take (i := 9) (v := .int .i64 (z.e)) rfl (by kernel_rfl) (by kernel_rfl) (by kernel_rfl) (fun _ _ _ h => h) (Or.inl ⟨by rfl, ?_⟩) hHeld ?_
            · intro w' hSw; subst hSw; have kx := hx0; go_simp
            try simp only [Act.put, List.getElem_toArray, List.getElem_cons_succ, List.getElem_cons_zero, List.setIfInBounds_toArray, List.set_cons_zero, List.set_cons_succ]
            refine wpAnyH_take (i := 10) (v := .slice (some ⟨b, off, none⟩) G.length cap') rfl (by kernel_rfl) (by kernel_rfl) (by kernel_rfl) (fun _ _ _ h => h) (Or.inl ⟨by rfl, ?_⟩) hHeld ?_
            · intro w' hSw; subst hSw; have kx := c0; go_simp
            try simp only [Act.put, List.getElem_toArray, List.getElem_cons_succ, List.getElem_cons_zero, List.setIfInBounds_toArray, List.set_cons_zero, List.set_cons_succ]
            refine wpAnyH_take (i := 11) (v := .pointer (some ⟨b, off, none⟩)) rfl (by kernel_rfl) (by kernel_rfl) (by kernel_rfl) (fun _ _ _ h => h) (Or.inl ⟨by rfl, ?_⟩) hHeld ?_
            · intro w' hSw; subst hSw; go_simp <;> omega
            try simp only [Act.put, List.getElem_toArray, List.getElem_cons_succ, List.getElem_cons_zero, List.setIfInBounds_toArray, List.set_cons_zero, List.set_cons_succ]
            refine wpAnyH_take (i := 12) (v := .pointer (some ⟨b, off, none⟩)) rfl (by kernel_rfl) (by kernel_rfl) (by kernel_rfl) (fun _ _ _ h => h) (Or.inl ⟨by rfl, ?_⟩) hHeld ?_
            · intro w' hSw; subst hSw; go_simp <;> omega
            try simp only [Act.put, List.getElem_toArray, List.getElem_cons_succ, List.getElem_cons_zero, List.setIfInBounds_toArray, List.set_cons_zero, List.set_cons_succ]
            refine wpAnyH_take (i := 13) (v := .int .i64 (z.e)) rfl (by kernel_rfl) (by kernel_rfl) (by kernel_rfl) (fun _ _ _ h => h) (Or.inl ⟨by rfl, ?_⟩) hHeld ?_
            · intro w' hSw; subst hSw; have kx := hz0; go_simp
            try simp only [Act.put, List.getElem_toArray, List.getElem_cons_succ, List.getElem_cons_zero, List.setIfInBounds_toArray, List.set_cons_zero, List.set_cons_succ]
            refine wpAnyH_take (i := 14) (v := .bool true) rfl (by kernel_rfl) (by kernel_rfl) (by kernel_rfl) (fun _ _ _ h => h) (Or.inl ⟨by rfl, ?_⟩) hHeld ?_
            · intro w' hSw; subst hSw; go_simp <;> omega
            try simp only [Act.put, List.getElem_toArray, List.getElem_cons_succ, List.getElem_cons_zero, List.setIfInBounds_toArray, List.set_cons_zero, List.set_cons_succ]
            refine wpAnyH_take (i := 15) (v := .bool true) rfl (by kernel_rfl) (by kernel_rfl) (by kernel_rfl) (fun _ _ _ h => h) (Or.inl ⟨by rfl, ?_⟩) hHeld ?_
            · intro w' hSw; subst hSw; go_simp <;> omega
            try simp only [Act.put, List.getElem_toArray, List.getElem_cons_succ, List.getElem_cons_zero, List.setIfInBounds_toArray, List.set_cons_zero, List.set_cons_succ]
            refine wpAnyH_done (by kernel_rfl) ?_ _
            clear hHeld
            go_wp2_with fail
            go_roundw
            case rel => exact ⟨n + 1, by omega, by omega, by go_num, fun j hj => by
              by_cases e : j = n
              · subst e; rw [hx1.out, hz1.out, Hxz.out]
              · exact Hsame.out j (by omega), Hdrew.out _ _ _ Hjn.out⟩
            case measure => simp [intOf]; omega
          · have hmore : n < G.length → (G.getD n default).e ≠ (G.getD 0 default).e := fun _ => by rw [hx1.out, hz1.out]; exact hxz
            have hxz2 : (x.e == z.e) = false := by simpa using hxz
            go_upto_region 2 with fail
            refine wp_region_held_drew (S := fun w' => w' = wi.drew) (by kernel_rfl) rfl (fun hHeld => ?_)
            refine wpAnyH_take (i := 0) (v := .int .i64 ((n : Int))) rfl (by kernel_rfl) (by kernel_rfl) (by kernel_rfl) (fun _ _ _ h => h) (Or.inl ⟨by rfl, ?_⟩) hHeld ?_
            · intro w' hSw; subst hSw; go_simp <;> omega
            try simp only [Act.put, List.getElem_toArray, List.getElem_cons_succ, List.getElem_cons_zero, List.setIfInBounds_toArray, List.set_cons_zero, List.set_cons_succ]
            refine wpAnyH_take (i := 1) (v := .slice (some ⟨b, off, none⟩) G.length cap') rfl (by kernel_rfl) (by kernel_rfl) (by kernel_rfl) (fun _ _ _ h => h) (Or.inl ⟨by rfl, ?_⟩) hHeld ?_
            · intro w' hSw; subst hSw; have kx := c0; go_simp
            try simp only [Act.put, List.getElem_toArray, List.getElem_cons_succ, List.getElem_cons_zero, List.setIfInBounds_toArray, List.set_cons_zero, List.set_cons_succ]
            refine wpAnyH_take (i := 2) (v := .int .i64 ((G.length : Int))) rfl (by kernel_rfl) (by kernel_rfl) (by kernel_rfl) (fun _ _ _ h => h) (Or.inl ⟨by rfl, ?_⟩) hHeld ?_
            · intro w' hSw; subst hSw; go_simp <;> omega
            try simp only [Act.put, List.getElem_toArray, List.getElem_cons_succ, List.getElem_cons_zero, List.setIfInBounds_toArray, List.set_cons_zero, List.set_cons_succ]
            refine wpAnyH_take (i := 3) (v := .bool true) rfl (by kernel_rfl) (by kernel_rfl) (by kernel_rfl) (fun _ _ _ h => h) (Or.inl ⟨by rfl, ?_⟩) hHeld ?_
            · intro w' hSw; subst hSw; go_simp <;> omega
            try simp only [Act.put, List.getElem_toArray, List.getElem_cons_succ, List.getElem_cons_zero, List.setIfInBounds_toArray, List.set_cons_zero, List.set_cons_succ]
            refine wpAnyH_take (i := 4) (v := .bool true) rfl (by kernel_rfl) (by kernel_rfl) (by kernel_rfl) (fun _ _ _ h => h) (Or.inl ⟨by rfl, ?_⟩) hHeld ?_
            · intro w' hSw; subst hSw; go_simp <;> omega
            try simp only [Act.put, List.getElem_toArray, List.getElem_cons_succ, List.getElem_cons_zero, List.setIfInBounds_toArray, List.set_cons_zero, List.set_cons_succ]
            refine wpAnyH_take (i := 5) (v := .slice (some ⟨b, off, none⟩) G.length cap') rfl (by kernel_rfl) (by kernel_rfl) (by kernel_rfl) (fun _ _ _ h => h) (Or.inl ⟨by rfl, ?_⟩) hHeld ?_
            · intro w' hSw; subst hSw; have kx := c0; go_simp
            try simp only [Act.put, List.getElem_toArray, List.getElem_cons_succ, List.getElem_cons_zero, List.setIfInBounds_toArray, List.set_cons_zero, List.set_cons_succ]
            refine wpAnyH_take (i := 6) (v := .int .i64 ((n : Int))) rfl (by kernel_rfl) (by kernel_rfl) (by kernel_rfl) (fun _ _ _ h => h) (Or.inl ⟨by rfl, ?_⟩) hHeld ?_
            · intro w' hSw; subst hSw; go_simp <;> omega
            try simp only [Act.put, List.getElem_toArray, List.getElem_cons_succ, List.getElem_cons_zero, List.setIfInBounds_toArray, List.set_cons_zero, List.set_cons_succ]
            refine wpAnyH_take (i := 7) (v := .pointer (some ⟨b, off + n * 6, none⟩)) rfl (by kernel_rfl) (by kernel_rfl) (by kernel_rfl) (fun _ _ _ h => h) (Or.inl ⟨by rfl, ?_⟩) hHeld ?_
            · intro w' hSw; subst hSw; go_simp <;> omega
            try simp only [Act.put, List.getElem_toArray, List.getElem_cons_succ, List.getElem_cons_zero, List.setIfInBounds_toArray, List.set_cons_zero, List.set_cons_succ]
            refine wpAnyH_take (i := 8) (v := .pointer (some ⟨b, off + n * 6, none⟩)) rfl (by kernel_rfl) (by kernel_rfl) (by kernel_rfl) (fun _ _ _ h => h) (Or.inl ⟨by rfl, ?_⟩) hHeld ?_
            · intro w' hSw; subst hSw; go_simp <;> omega
            try simp only [Act.put, List.getElem_toArray, List.getElem_cons_succ, List.getElem_cons_zero, List.setIfInBounds_toArray, List.set_cons_zero, List.set_cons_succ]
            refine wpAnyH_take (i := 9) (v := .int .i64 (x.e)) rfl (by kernel_rfl) (by kernel_rfl) (by kernel_rfl) (fun _ _ _ h => h) (Or.inl ⟨by rfl, ?_⟩) hHeld ?_
            · intro w' hSw; subst hSw; have kx := hx0; go_simp
            try simp only [Act.put, List.getElem_toArray, List.getElem_cons_succ, List.getElem_cons_zero, List.setIfInBounds_toArray, List.set_cons_zero, List.set_cons_succ]
            refine wpAnyH_take (i := 10) (v := .slice (some ⟨b, off, none⟩) G.length cap') rfl (by kernel_rfl) (by kernel_rfl) (by kernel_rfl) (fun _ _ _ h => h) (Or.inl ⟨by rfl, ?_⟩) hHeld ?_
            · intro w' hSw; subst hSw; have kx := c0; go_simp
            try simp only [Act.put, List.getElem_toArray, List.getElem_cons_succ, List.getElem_cons_zero, List.setIfInBounds_toArray, List.set_cons_zero, List.set_cons_succ]
            refine wpAnyH_take (i := 11) (v := .pointer (some ⟨b, off, none⟩)) rfl (by kernel_rfl) (by kernel_rfl) (by kernel_rfl) (fun _ _ _ h => h) (Or.inl ⟨by rfl, ?_⟩) hHeld ?_
            · intro w' hSw; subst hSw; go_simp <;> omega
            try simp only [Act.put, List.getElem_toArray, List.getElem_cons_succ, List.getElem_cons_zero, List.setIfInBounds_toArray, List.set_cons_zero, List.set_cons_succ]
            refine wpAnyH_take (i := 12) (v := .pointer (some ⟨b, off, none⟩)) rfl (by kernel_rfl) (by kernel_rfl) (by kernel_rfl) (fun _ _ _ h => h) (Or.inl ⟨by rfl, ?_⟩) hHeld ?_
            · intro w' hSw; subst hSw; go_simp <;> omega
            try simp only [Act.put, List.getElem_toArray, List.getElem_cons_succ, List.getElem_cons_zero, List.setIfInBounds_toArray, List.set_cons_zero, List.set_cons_succ]
            refine wpAnyH_take (i := 13) (v := .int .i64 (z.e)) rfl (by kernel_rfl) (by kernel_rfl) (by kernel_rfl) (fun _ _ _ h => h) (Or.inl ⟨by rfl, ?_⟩) hHeld ?_
            · intro w' hSw; subst hSw; have kx := hz0; go_simp
            try simp only [Act.put, List.getElem_toArray, List.getElem_cons_succ, List.getElem_cons_zero, List.setIfInBounds_toArray, List.set_cons_zero, List.set_cons_succ]
            refine wpAnyH_take (i := 14) (v := .bool false) rfl (by kernel_rfl) (by kernel_rfl) (by kernel_rfl) (fun _ _ _ h => h) (Or.inl ⟨by rfl, ?_⟩) hHeld ?_
            · intro w' hSw; subst hSw; go_simp <;> omega
            try simp only [Act.put, List.getElem_toArray, List.getElem_cons_succ, List.getElem_cons_zero, List.setIfInBounds_toArray, List.set_cons_zero, List.set_cons_succ]
            refine wpAnyH_take (i := 15) (v := .bool false) rfl (by kernel_rfl) (by kernel_rfl) (by kernel_rfl) (fun _ _ _ h => h) (Or.inl ⟨by rfl, ?_⟩) hHeld ?_
            · intro w' hSw; subst hSw; go_simp <;> omega
            try simp only [Act.put, List.getElem_toArray, List.getElem_cons_succ, List.getElem_cons_zero, List.setIfInBounds_toArray, List.set_cons_zero, List.set_cons_succ]
            refine wpAnyH_done (by kernel_rfl) ?_ _
            clear hHeld
            clear hxz hxz2
            have hnl' : 0 + n ≤ G.length := by omega
            have hjd := Hdrew.out k k wi Hjn.out
            have hsd : Fts lo hi wi.drew (.slice (some ⟨b, off, none⟩) G.length cap') G := Sl.agree Hs'.out ftE_loc (fun _ _ _ => rfl)
            have cd : wi.drew.cell? ⟨kb, 0, none⟩ = some (.slice (some ⟨b, off, none⟩) G.length cap') := hv'
            obtain ⟨ao1, cap1, e1, hcl1, hcm1, -, hcc1⟩ := hsd.form
            injection e1 with e1 _ e1'
            subst e1'
            obtain ⟨b1, off1, e2, hb11, hb12, hce1⟩ := hcc1 0 hGp
            rw [← e1] at e2
            injection e2 with e2
            injection e2 with e2 e2'
            subst e2 e2'
            have hs1 := Sl.piece (cap := 0) hce1 hb11 hb12 0 n cap' hnl' (by omega) (by simp only [maxLen]; omega)
            rw [Nat.zero_mul, Nat.add_zero, List.drop_zero] at hs1
            clear hcc1 hce1 e1
            have hg0 := Hgo.out 0
            rw [Nat.add_zero] at hg0
            have hGl := HGl.out
            have hgrp : Grp l k n := ⟨hn0, by omega, fun j hj => by rw [← Hgo.out j, ← hg0]; exact Hsame.out j hj, fun hm => by
              rw [← Hgo.out n, ← hg0]; exact hmore (by omega)⟩
            obtain ⟨yf, yt, ya, yb, hy, hR⟩ := HY.out k n wi.drew (.slice (some ⟨b, off, none⟩) n cap') hjd hgrp (by rw [← HG.out]; exact hs1)
            have Hgrp := Lib.hid hgrp
            generalize wi.drew = W2 at *
            clear hjd hsd hs1 hgrp hg0 hGl hmore hn0 hx0 hz0 c0 hv' hf'
            go_upto_region 4 with fail
            refine (wpIn_wide (n := m + 1)).1 ?_
            gi_wp2_with fail
            refine hR.mono ?_
            rintro e W3 ⟨rfl, hj3⟩
            obtain ⟨v3, c3, f3, hs3⟩ := Hc.out k (k + n) W3 hj3
            rw [← HG.out] at hs3
            obtain ⟨ao3, cap3, rfl, -, -, -, -⟩ := hs3.form
            obtain ⟨v4, hrun4, hs4⟩ := Sl.fromOn hs3 29 Try.underlying29 size_Ft n hnl
            obtain ⟨ao4, cap4, rfl, -, -, -, -⟩ := hs4.form
            have hd : G.drop n = l.drop (k + n) := by rw [HG.out, List.drop_drop]
            have hJ4 := Hst.out k (k + n) W3 (.slice ao4 (G.drop n).length cap4) hj3 (by rw [← hd]; exact hs4)
            have HJ4 := Lib.hid hJ4
            have HM4 : Hid (sliceLen ((W3.setCell ⟨kb, 0, none⟩ (.slice ao4 (G.drop n).length cap4)).cell? ⟨kb, 0, none⟩) = l.length - (k + n)) := by
              obtain ⟨v5, c5, -, hs5⟩ := Hc.out _ _ _ hJ4
              obtain ⟨ao5, cap5, e5, -⟩ := hs5.form
              show sliceLen _ = _
              rw [c5, e5]
              simp [sliceLen]
            rw [List.length_drop] at HJ4 HM4
            have Hg := Hgrp.out.pos
            have Hle := Hgrp.out.le
            clear hJ4 hj3 hs4 hs3 hR hy cd hd
            gi_wp2_with fail
            go_wp2_with fail
            go_roundw
            case rel => exact ⟨k + n, Hle, HJ4.out⟩
            case measure => rw [HM4.out, HM.out]; omega
        · have hmore : n < G.length → (G.getD n default).e ≠ (G.getD 0 default).e := fun h => absurd h hnG
          have hx0 : True := trivial
          clear hce
          generalize G[0] = z at *
          go_upto_region 2 with fail
          refine wp_region_held_drew (S := fun w' => w' = wi.drew) (by kernel_rfl) rfl (fun hHeld => ?_)
          refine wpAnyH_take (i := 0) (v := .int .i64 ((n : Int))) rfl (by kernel_rfl) (by kernel_rfl) (by kernel_rfl) (fun _ _ _ h => h) (Or.inl ⟨by rfl, ?_⟩) hHeld ?_
          · intro w' hSw; subst hSw; go_simp <;> omega
          try simp only [Act.put, List.getElem_toArray, List.getElem_cons_succ, List.getElem_cons_zero, List.setIfInBounds_toArray, List.set_cons_zero, List.set_cons_succ]
          refine wpAnyH_take (i := 1) (v := .slice (some ⟨b, off, none⟩) G.length cap') rfl (by kernel_rfl) (by kernel_rfl) (by kernel_rfl) (fun _ _ _ h => h) (Or.inl ⟨by rfl, ?_⟩) hHeld ?_
          · intro w' hSw; subst hSw; have kx := c0; go_simp
          try simp only [Act.put, List.getElem_toArray, List.getElem_cons_succ, List.getElem_cons_zero, List.setIfInBounds_toArray, List.set_cons_zero, List.set_cons_succ]
          refine wpAnyH_take (i := 2) (v := .int .i64 ((G.length : Int))) rfl (by kernel_rfl) (by kernel_rfl) (by kernel_rfl) (fun _ _ _ h => h) (Or.inl ⟨by rfl, ?_⟩) hHeld ?_
          · intro w' hSw; subst hSw; go_simp <;> omega
          try simp only [Act.put, List.getElem_toArray, List.getElem_cons_succ, List.getElem_cons_zero, List.setIfInBounds_toArray, List.set_cons_zero, List.set_cons_succ]
          refine wpAnyH_take (i := 3) (v := .bool false) rfl (by kernel_rfl) (by kernel_rfl) (by kernel_rfl) (fun _ _ _ h => h) (Or.inl ⟨by rfl, ?_⟩) hHeld ?_
          · intro w' hSw; subst hSw; go_simp <;> omega
          try simp only [Act.put, List.getElem_toArray, List.getElem_cons_succ, List.getElem_cons_zero, List.setIfInBounds_toArray, List.set_cons_zero, List.set_cons_succ]
          refine wpAnyH_take (i := 4) (v := .bool false) rfl (by kernel_rfl) (by kernel_rfl) (by kernel_rfl) (fun _ _ _ h => h) (Or.inl ⟨by rfl, ?_⟩) hHeld ?_
          · intro w' hSw; subst hSw; go_simp <;> omega
          try simp only [Act.put, List.getElem_toArray, List.getElem_cons_succ, List.getElem_cons_zero, List.setIfInBounds_toArray, List.set_cons_zero, List.set_cons_succ]
          refine wpAnyH_take (i := 5) (v := undef) rfl (by kernel_rfl) (by kernel_rfl) (by kernel_rfl) (fun _ _ _ h => h) (Or.inr ⟨by kernel_rfl, rfl⟩) hHeld ?_
          try simp only [Act.put, List.getElem_toArray, List.getElem_cons_succ, List.getElem_cons_zero, List.setIfInBounds_toArray, List.set_cons_zero, List.set_cons_succ]
          refine wpAnyH_take (i := 6) (v := undef) rfl (by kernel_rfl) (by kernel_rfl) (by kernel_rfl) (fun _ _ _ h => h) (Or.inr ⟨by kernel_rfl, rfl⟩) hHeld ?_
          try simp only [Act.put, List.getElem_toArray, List.getElem_cons_succ, List.getElem_cons_zero, List.setIfInBounds_toArray, List.set_cons_zero, List.set_cons_succ]
          refine wpAnyH_take (i := 7) (v := undef) rfl (by kernel_rfl) (by kernel_rfl) (by kernel_rfl) (fun _ _ _ h => h) (Or.inr ⟨by kernel_rfl, rfl⟩) hHeld ?_
          try simp only [Act.put, List.getElem_toArray, List.getElem_cons_succ, List.getElem_cons_zero, List.setIfInBounds_toArray, List.set_cons_zero, List.set_cons_succ]
          refine wpAnyH_take (i := 8) (v := undef) rfl (by kernel_rfl) (by kernel_rfl) (by kernel_rfl) (fun _ _ _ h => h) (Or.inr ⟨by kernel_rfl, rfl⟩) hHeld ?_
          try simp only [Act.put, List.getElem_toArray, List.getElem_cons_succ, List.getElem_cons_zero, List.setIfInBounds_toArray, List.set_cons_zero, List.set_cons_succ]
          refine wpAnyH_take (i := 9) (v := undef) rfl (by kernel_rfl) (by kernel_rfl) (by kernel_rfl) (fun _ _ _ h => h) (Or.inr ⟨by kernel_rfl, rfl⟩) hHeld ?_
          try simp only [Act.put, List.getElem_toArray, List.getElem_cons_succ, List.getElem_cons_zero, List.setIfInBounds_toArray, List.set_cons_zero, List.set_cons_succ]
          refine wpAnyH_take (i := 10) (v := undef) rfl (by kernel_rfl) (by kernel_rfl) (by kernel_rfl) (fun _ _ _ h => h) (Or.inr ⟨by kernel_rfl, rfl⟩) hHeld ?_
          try simp only [Act.put, List.getElem_toArray, List.getElem_cons_succ, List.getElem_cons_zero, List.setIfInBounds_toArray, List.set_cons_zero, List.set_cons_succ]
          refine wpAnyH_take (i := 11) (v := undef) rfl (by kernel_rfl) (by kernel_rfl) (by kernel_rfl) (fun _ _ _ h => h) (Or.inr ⟨by kernel_rfl, rfl⟩) hHeld ?_
          try simp only [Act.put, List.getElem_toArray, List.getElem_cons_succ, List.getElem_cons_zero, List.setIfInBounds_toArray, List.set_cons_zero, List.set_cons_succ]
          refine wpAnyH_take (i := 12) (v := undef) rfl (by kernel_rfl) (by kernel_rfl) (by kernel_rfl) (fun _ _ _ h => h) (Or.inr ⟨by kernel_rfl, rfl⟩) hHeld ?_
          try simp only [Act.put, List.getElem_toArray, List.getElem_cons_succ, List.getElem_cons_zero, List.setIfInBounds_toArray, List.set_cons_zero, List.set_cons_succ]
          refine wpAnyH_take (i := 13) (v := undef) rfl (by kernel_rfl) (by kernel_rfl) (by kernel_rfl) (fun _ _ _ h => h) (Or.inr ⟨by kernel_rfl, rfl⟩) hHeld ?_
          try simp only [Act.put, List.getElem_toArray, List.getElem_cons_succ, List.getElem_cons_zero, List.setIfInBounds_toArray, List.set_cons_zero, List.set_cons_succ]
          refine wpAnyH_take (i := 14) (v := undef) rfl (by kernel_rfl) (by kernel_rfl) (by kernel_rfl) (fun _ _ _ h => h) (Or.inr ⟨by kernel_rfl, rfl⟩) hHeld ?_
          try simp only [Act.put, List.getElem_toArray, List.getElem_cons_succ, List.getElem_cons_zero, List.setIfInBounds_toArray, List.set_cons_zero, List.set_cons_succ]
          refine wpAnyH_take (i := 15) (v := .bool false) rfl (by kernel_rfl) (by kernel_rfl) (by kernel_rfl) (fun _ _ _ h => h) (Or.inl ⟨by rfl, ?_⟩) hHeld ?_
          · intro w' hSw; subst hSw; go_simp <;> omega
          try simp only [Act.put, List.getElem_toArray, List.getElem_cons_succ, List.getElem_cons_zero, List.setIfInBounds_toArray, List.set_cons_zero, List.set_cons_succ]
          refine wpAnyH_done (by kernel_rfl) ?_ _
          clear hHeld

          have hnl' : 0 + n ≤ G.length := by omega
          have hjd := Hdrew.out k k wi Hjn.out
          have hsd : Fts lo hi wi.drew (.slice (some ⟨b, off, none⟩) G.length cap') G := Sl.agree Hs'.out ftE_loc (fun _ _ _ => rfl)
          have cd : wi.drew.cell? ⟨kb, 0, none⟩ = some (.slice (some ⟨b, off, none⟩) G.length cap') := hv'
          obtain ⟨ao1, cap1, e1, hcl1, hcm1, -, hcc1⟩ := hsd.form
          injection e1 with e1 _ e1'
          subst e1'
          obtain ⟨b1, off1, e2, hb11, hb12, hce1⟩ := hcc1 0 hGp
          rw [← e1] at e2
          injection e2 with e2
          injection e2 with e2 e2'
          subst e2 e2'
          have hs1 := Sl.piece (cap := 0) hce1 hb11 hb12 0 n cap' hnl' (by omega) (by simp only [maxLen]; omega)
          rw [Nat.zero_mul, Nat.add_zero, List.drop_zero] at hs1
          clear hcc1 hce1 e1
          have hg0 := Hgo.out 0
          rw [Nat.add_zero] at hg0
          have hGl := HGl.out
          have hgrp : Grp l k n := ⟨hn0, by omega, fun j hj => by rw [← Hgo.out j, ← hg0]; exact Hsame.out j hj, fun hm => by
            rw [← Hgo.out n, ← hg0]; exact hmore (by omega)⟩
          obtain ⟨yf, yt, ya, yb, hy, hR⟩ := HY.out k n wi.drew (.slice (some ⟨b, off, none⟩) n cap') hjd hgrp (by rw [← HG.out]; exact hs1)
          have Hgrp := Lib.hid hgrp
          generalize wi.drew = W2 at *
          clear hjd hsd hs1 hgrp hg0 hGl hmore hn0 hx0 hz0 c0 hv' hf'
          go_upto_region 4 with fail
          refine (wpIn_wide (n := m + 1)).1 ?_
          gi_wp2_with fail
          refine hR.mono ?_
          rintro e W3 ⟨rfl, hj3⟩
          obtain ⟨v3, c3, f3, hs3⟩ := Hc.out k (k + n) W3 hj3
          rw [← HG.out] at hs3
          obtain ⟨ao3, cap3, rfl, -, -, -, -⟩ := hs3.form
          obtain ⟨v4, hrun4, hs4⟩ := Sl.fromOn hs3 29 Try.underlying29 size_Ft n hnl
          obtain ⟨ao4, cap4, rfl, -, -, -, -⟩ := hs4.form
          have hd : G.drop n = l.drop (k + n) := by rw [HG.out, List.drop_drop]
          have hJ4 := Hst.out k (k + n) W3 (.slice ao4 (G.drop n).length cap4) hj3 (by rw [← hd]; exact hs4)
          have HJ4 := Lib.hid hJ4
          have HM4 : Hid (sliceLen ((W3.setCell ⟨kb, 0, none⟩ (.slice ao4 (G.drop n).length cap4)).cell? ⟨kb, 0, none⟩) = l.length - (k + n)) := by
            obtain ⟨v5, c5, -, hs5⟩ := Hc.out _ _ _ hJ4
            obtain ⟨ao5, cap5, e5, -⟩ := hs5.form
            show sliceLen _ = _
            rw [c5, e5]
            simp [sliceLen]
          rw [List.length_drop] at HJ4 HM4
          have Hg := Hgrp.out.pos
          have Hle := Hgrp.out.le
          clear hJ4 hj3 hs4 hs3 hR hy cd hd
          gi_wp2_with fail
          go_wp2_with fail
          go_roundw
          case rel => exact ⟨k + n, Hle, HJ4.out⟩
          case measure => rw [HM4.out, HM.out]; omega
    · obtain rfl : k = l.length := by omega
      have hG0 : ¬ (0 : Int) < (G.length : Int) := by omega
      obtain ⟨ao, cap, rfl, -, -, -, -⟩ := hs.form
      go_wp2_with fail
      go_end0
      exact ⟨⟨_, rfl⟩, Hj.out⟩
end Go.Proofs.Ytkcpanaojehgiaa
