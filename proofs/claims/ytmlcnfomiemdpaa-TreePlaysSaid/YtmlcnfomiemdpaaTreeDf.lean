/- Trees: Diff, equal. (Printed by treedf.py.) -/
import Derived.Test.YtmlcnfomiemdpaaTreeAl
namespace Go.Proofs.Ytmlcnfomiemdpaa
open Go.RowKit Go.Shelf
attribute [local go_sem ↓] Go.wp_at_zero Go.wp_at_succ
attribute [local go_sem] Oper.semAt_some
set_option linter.unusedVariables false
set_option linter.unusedSimpArgs false

set_option maxRecDepth 100000 in
theorem bytes_Equal (lo hi lo2 hi2 : Nat) (v1 v2 : Value) (a b : List UInt8) (w : World) (h1 : Bytes lo hi w v1 a) (h2 : Bytes lo2 hi2 w v2 b) (R : Ending → World → Prop) (hR : R (.returned (.bool (a == b))) w) : Calls Try.prog 43 #[v1, v2] w R := by
  have c1 := str h1
  have c2 := str h2
  obtain ⟨a1, p1, rfl, -, -, -⟩ := h1.form
  obtain ⟨a2, p2, rfl, -, -, -⟩ := h2.form
  clear h1 h2
  go_enter Try.func43, Try.ntmps43
  go_wp2_with fail
  first | exact hR | exact fin hR rfl
theorem Tr.on {B : Nat → Prop} {lo : Nat} {w W : World} {t : T} {p : Value} (h : Tr B lo w t p) (ho : On (· < w.heap.size) w W) (hB : ∀ b, B b → b < lo := by exact Nn.lt _) (hlo : lo ≤ w.heap.size := by assumption) : Tr (· < w.heap.size) W.heap.size W.drew t p := by
  have hs : ∀ b, Xs B lo w b → b < w.heap.size := fun b h => Xs.lt hB hlo h
  rcases h with h | ⟨b, q, e, hx, hc, ht⟩
  · exact .inl h
  · exact .inr ⟨b, q, e, .inl (hs b hx), (World.cell?_of_block (ho b (hs b hx))).trans hc, Nd.on (w' := W.drew) (fun k hk => ho k (hs k hk)) (fun b h => Or.inl (hs b h)) t ht⟩
/-- Is a pair not so in a tree? -/
def dfP (u : T) (x : List UInt8 × List UInt8) : Bool := decide (u.get x.1 ≠ some x.2)
def DfJ (b0 L ob : Nat) (boxes : List (Nat × Value × TypeId)) (p : List UInt8 × List UInt8 → Bool) (o : Obj) : (Nat → Prop) → PL → World → Prop := fun C d W => OutC b0 L ob boxes o C (d.filter p) W
set_option maxRecDepth 100000 in
set_option maxHeartbeats 16000000 in
theorem Diff_any (lo : Nat) (t u : T) (p pu : Value) (w : World) (hlo : lo ≤ w.heap.size) (ht : Tr Nn lo w t p) (hu : Tr Nn lo w u pu) (hm : t.many ≤ 1000000) (hlen : ∀ x ∈ t.toL, x.1.length ≤ 100000000 ∧ x.2.length ≤ 100000000)
    (R : Ending → World → Prop) (hR : ∀ w' v ps, Below w.heap.size w w' → Pairs w.heap.size w' v ps ((t.from []).filter (dfP u)) → R (.returned v) w') :
    Calls Try.prog 27 #[p, pu] w R := by
  have HR := Lib.hid hR
  have Hlen := Lib.hid hlen
  obtain ⟨qu, rfl⟩ := hu.ptr2
  have Hu := Lib.hid hu
  have hB3 : Below w.heap.size w ((w.alloc (.cells #[.pointer qu] 25)).alloc (.cells #[.slice none 0 0] 38)) := ((Below.refl _ _).alloc (Nat.le_refl _) _).alloc (by simp) _
  have hb6 : Blk ((w.alloc (.cells #[.pointer qu] 25)).alloc (.cells #[.slice none 0 0] 38)) w.heap.size [.pointer qu] 25 := (Blk.new w [.pointer qu] 25 rfl).alloc _
  have hb8 : Blk ((w.alloc (.cells #[.pointer qu] 25)).alloc (.cells #[.slice none 0 0] 38)) (w.heap.size + 1) [.slice none 0 0] 38 := Blk.new _ [.slice none 0 0] 38 (by simp)
  have hs3 : ((w.alloc (.cells #[.pointer qu] 25)).alloc (.cells #[.slice none 0 0] 38)).heap.size = w.heap.size + 2 := by simp
  clear hR hlen hu
  refine (callsIn_wide (n := 3)).1 (callsIn_of_wp_marks Try.func27 rfl trivial ?_ rfl)
  refine wpIn_wide.2 ?_
  simp only [Try.ntmps27, List.size_toArray, List.length_cons, Nat.reduceAdd, Nat.reduceSub, Array.replicate_succ, Array.replicate_zero, List.push_toArray, List.append_toArray, List.nil_append, List.cons_append, List.length_nil]
  go_wp2_with fail
  generalize (w.alloc (.cells #[.pointer qu] 25)).alloc (.cells #[.slice none 0 0] 38) = W3 at *
  refine root_any (Xs Nn lo w) W3.heap.size t p W3 (Tr.fix ht (Nn.lt _) hlo hB3 _) _ fun q hn => ?_
  have Hn : Hid (Nd (· < w.heap.size) W3 t (.pointer q)) := Lib.hid (Nd.on (fun _ _ => rfl) (fun b h => h.elim (Xs.lt (Nn.lt _) hlo) (fun e => absurd e.2 (Nat.not_lt.2 e.1))) t hn)
  clear hn ht
  go_wp2_with fail
  refine from_any q none 0 0 W3 _ ?_
  go_wp2_with fail
  have hqb : Blk ((W3.alloc (.cells #[.pointer q] 50)).alloc (.cells #[.slice none 0 0] 30)) W3.heap.size [.pointer q] 50 := (Blk.new W3 [.pointer q] 50 rfl).alloc _
  have hkbk : Blk ((W3.alloc (.cells #[.pointer q] 50)).alloc (.cells #[.slice none 0 0] 30)) (W3.heap.size + 1) [.slice none 0 0] 30 := Blk.new _ [.slice none 0 0] 30 (by simp)
  have hse : ((W3.alloc (.cells #[.pointer q] 50)).alloc (.cells #[.slice none 0 0] 30)).heap.size = W3.heap.size + 2 := by simp
  have hBe : Below W3.heap.size W3 ((W3.alloc (.cells #[.pointer q] 50)).alloc (.cells #[.slice none 0 0] 30)) := ((Below.refl _ _).alloc (Nat.le_refl _) _).alloc (by simp) _
  generalize (W3.alloc (.cells #[.pointer q] 50)).alloc (.cells #[.slice none 0 0] 30) = We at *
  refine wp_rangeFuncR 1 (gf := 46) rfl (enters_of Try.func46 (by kernel_rfl) rfl) (fun fn RL hRL => ?_)
  have HRL := Lib.hid hRL
  clear hRL
  have hB5 : Below We.heap.size We ((We.alloc (.deferred (some []))).alloc (.loop (RL .ready none))) := ((Below.refl _ _).alloc (Nat.le_refl _) _).alloc (by simp) _
  have hlD : ((We.alloc (.deferred (some []))).alloc (.loop (RL .ready none))).heap[We.heap.size]? = some (.deferred (some [])) := (Below.heap_alloc _ _ _ (by simp)).trans (World.alloc_heap_new We _)
  have hlL : ((We.alloc (.deferred (some []))).alloc (.loop (RL .ready none))).heap[We.heap.size + 1]? = some (.loop (RL .ready none)) := by
    have := World.alloc_heap_new (We.alloc (.deferred (some []))) (.loop (RL .ready none))
    rwa [World.size_alloc] at this
  have hs5 : ((We.alloc (.deferred (some []))).alloc (.loop (RL .ready none))).heap.size = We.heap.size + 2 := by simp
  generalize (We.alloc (.deferred (some []))).alloc (.loop (RL .ready none)) = W5 at *
  have hB35 : Below W3.heap.size W3 W5 := hBe.trans (hB5.mono (by omega))
  have hBw5 : Below w.heap.size w W5 := hB3.trans (hB35.mono (by omega))
  obtain ⟨L, eL⟩ : ∃ L, L = We.heap.size + 1 := ⟨_, rfl⟩
  rw [← eL] at hlL ⊢
  have hV5 : OutV w.heap.size L (w.heap.size + 1) [(w.heap.size, .pointer qu, 25)] (.loop (RL .ready none)) (fun k => k = w.heap.size ∨ k = w.heap.size + 1 ∨ k = L) [] W5 (.slice none 0 0) [] :=
    { cl := by rintro k (e | e | e) <;> omega
      bx := by
        intro x hx
        rw [List.mem_singleton.1 hx]
        exact ⟨by show w.heap.size < w.heap.size + 1; omega, .inl rfl, hb6.below hB35 (by omega)⟩
      co := .inr (.inl rfl)
      ol := by omega
      cL := .inr (.inr rfl)
      rcd := hlL
      out := hb8.below hB35 (by omega)
      prs := Pairs.nil _ _
      cv := fun g e => by cases e
      cb := fun g e => by cases e }
  rw [hs3] at hqb hkbk
  have hnd5 : Nd (· < w.heap.size) W5 t (.pointer q) := Nd.on (fun k hk => hB35.block k (by show k < W3.heap.size; have : k < w.heap.size := hk; omega)) (fun _ h => h) t Hn.out
  refine (from1_any [] (· < w.heap.size) w (t.from []) t L (DfJ w.heap.size L (w.heap.size + 1) [(w.heap.size, .pointer qu, 25)] (dfP u) (.loop (RL .ready none))) (fun _ _ => False) ?hcons (w.heap.size + 2) (w.heap.size + 2 + 1) q none 0 (fun k => k = w.heap.size ∨ k = w.heap.size + 1 ∨ k = L) [] [] W5 1 hnd5 ⟨0, fun e => absurd rfl e, Sl.nil _ _ _ _ _⟩ (fun k hk => ⟨?hF, Nat.lt_of_lt_of_le hk hBw5.size⟩)
    ((hqb.below hB5 (by omega)).cells.c1) ((hkbk.below hB5 (by omega)).cells.c1) ⟨?hnb, by omega⟩ ⟨?hkb, by omega⟩ ⟨_, _, hV5⟩ (by simp) (fun k hk => hBw5.block k hk)).mono ?hend
  case hF => have : k < w.heap.size := hk
             rintro (e | e | e) <;> omega
  case hnb => rintro (e | e | e) <;> omega
  case hkb => rintro (e | e | e) <;> omega
  case hcons =>
    refine ⟨fun C d W W' hj hO => OutC.on hj hO, fun C W W' hz => hz.elim, fun C d W hj k hk => ?_, fun C W hz => hz.elim, ?_⟩
    · obtain ⟨v, ps, h⟩ := hj
      exact (h.cl k hk).2
    · have HeL := Lib.hid eL
      have Hse := Lib.hid hse
      have Hs5 := Lib.hid hs5
      have Hs3 := Lib.hid hs3
      have hgw : w.heap.size + 4 < L := by omega
      clear eL hse hs5 hs3 hV5 hnd5 hb6 hb8 hB3 hqb hkbk hBe hB5 hlD hlL hB35 hBw5 Hn
      intro m2 C2 d2 rest2 Wy k2 v2 lt2 rt2 p2 he2 hj2 hn2 hF2 hw2
      obtain ⟨vo, ps, hV⟩ := hj2
      obtain ⟨df, hdf⟩ : ∃ df, df = d2.filter (dfP u) := ⟨_, rfl⟩
      rw [← hdf] at hV
      obtain ⟨b2, kv2, vv2, lp2, rp2, rfl, hb2, -⟩ := id hn2
      have hdl : d2.length ≤ 1000000 := by
        have h1 := t.from_len []
        rw [he2, List.length_append] at h1
        omega
      have hln := Hlen.out (k2, v2) (t.from_mem [] _ (by rw [he2]; exact List.mem_append_right _ List.mem_cons_self))
      have hdfl : df.length ≤ 1000000 := by
        have := List.length_filter_le (dfP u) d2
        rw [← hdf] at this
        omega
      have Hdf := Lib.hid hdf.symm
      clear hdf
      have He2 := Lib.hid he2
      clear he2
      refine yieldAt_recR HRL.out hV.rcd rfl ?_
      have HV := Lib.hid hV
      have Hn2 := Lib.hid hn2
      clear hV hn2
      gi_wp2
      refine ⟨HV.out.rcd, ?_⟩
      have hLy := (HV.out.cl L HV.out.cL).2
      have ho3 : Only (· = L) Wy (Wy.putObj L (.loop (RL .busy none))) := Only.putObj (A := (· = L)) Wy (b := L) rfl _
      have hl3 : (Wy.putObj L (.loop (RL .busy none))).heap[L]? = some (.loop (RL .busy none)) := World.putObj_heap_same hLy
      have hs3 : (Wy.putObj L (.loop (RL .busy none))).heap.size = Wy.heap.size := World.putObj_size
      generalize Wy.putObj L (.loop (RL .busy none)) = Wq at *
      have hV3 : OutV w.heap.size L (w.heap.size + 1) [(w.heap.size, .pointer qu, 25)] (.loop (RL .busy none)) C2 df Wq vo ps := HV.out.rec2 ho3 hl3
      have HV3 := Lib.hid hV3
      obtain ⟨po, co, rfl⟩ := hV3.prs.own.slice
      have hpl := hV3.prs.len
      rw [hpl] at HV3 HV
      have c6 := (hV3.bx _ List.mem_cons_self).2.2.cells.c1
      have c9 := hV3.out.cells.c1
      have f9 := hV3.out.free 0
      rw [hpl] at c9
      have hn3 := Nd.on (w' := Wq) (fun z hz => ho3.block z (hF2 z hz).2 (fun e => (hF2 z hz).1 (e ▸ HV.out.cL))) (fun _ h => h) _ Hn2.out
      obtain ⟨b3, kv3, vv3, lp3, rp3, e3, hb3, hc3, hk3, hv3, -, -⟩ := hn3
      injection e3 with e3
      injection e3 with e3
      injection e3 with e3
      subst e3
      obtain ⟨n0, n1, -, -, -, -⟩ := hc3.c6
      have hu3 : Tr (· < w.heap.size) Wq.heap.size Wq.drew u (.pointer qu) := Tr.on Hu.out (fun z hz => (ho3.block z (hF2 z hz).2 (fun e => (hF2 z hz).1 (e ▸ HV.out.cL))).trans (hw2 z hz))
      have Hu3 := Lib.hid hu3
      have Hk3 := Lib.hid hk3
      have Hv3 := Lib.hid hv3
      have Hs9 := Lib.hid hs3
      have Ho3 := Lib.hid ho3
      obtain ⟨ak, ck, rfl, -, -⟩ := hk3.form
      obtain ⟨av, cv, rfl, -, -⟩ := hv3.form
      clear hc3 hk3 hv3 hu3 ho3 hs3 hpl hV3 hl3
      have Hl3 := Lib.hid HV3.out.rcd
      gi_wp2_with fail
      refine wpIn_region_held (S := fun w' => w' = Wq.drew) (by kernel_rfl) (by rintro ⟨a, w, h⟩; exact h) (by kernel_rfl) rfl (fun hHeld => ?_)
      refine wpAnyH_take (i := 0) (v := .pointer qu) rfl (by kernel_rfl) (by kernel_rfl) (by kernel_rfl) (fun _ _ _ h => h) (Or.inl ⟨by rfl, ?_⟩) hHeld ?_
      · intro w' hSw; subst hSw; go_simp
      try simp only [Act.put, List.getElem_toArray, List.getElem_cons_succ, List.getElem_cons_zero, List.setIfInBounds_toArray, List.set_cons_zero, List.set_cons_succ]
      refine wpAnyH_take (i := 2) (v := .pointer (some ⟨b2, 0, none⟩)) rfl (by kernel_rfl) (by kernel_rfl) (by kernel_rfl) (fun _ _ _ h => h) (Or.inl ⟨by rfl, ?_⟩) hHeld ?_
      · intro w' hSw; subst hSw; go_simp
      try simp only [Act.put, List.getElem_toArray, List.getElem_cons_succ, List.getElem_cons_zero, List.setIfInBounds_toArray, List.set_cons_zero, List.set_cons_succ]
      refine wpAnyH_take (i := 3) (v := .pointer (some ⟨b2, 0, none⟩)) rfl (by kernel_rfl) (by kernel_rfl) (by kernel_rfl) (fun _ _ _ h => h) (Or.inl ⟨by rfl, ?_⟩) hHeld ?_
      · intro w' hSw; subst hSw; go_simp
      try simp only [Act.put, List.getElem_toArray, List.getElem_cons_succ, List.getElem_cons_zero, List.setIfInBounds_toArray, List.set_cons_zero, List.set_cons_succ]
      refine wpAnyH_take (i := 4) (v := .pointer (some ⟨b2, 0, none⟩)) rfl (by kernel_rfl) (by kernel_rfl) (by kernel_rfl) (fun _ _ _ h => h) (Or.inl ⟨by rfl, ?_⟩) hHeld ?_
      · intro w' hSw; subst hSw; go_simp
      try simp only [Act.put, List.getElem_toArray, List.getElem_cons_succ, List.getElem_cons_zero, List.setIfInBounds_toArray, List.set_cons_zero, List.set_cons_succ]
      refine wpAnyH_take (i := 5) (v := .slice ak k2.length ck) rfl (by kernel_rfl) (by kernel_rfl) (by kernel_rfl) (fun _ _ _ h => h) (Or.inl ⟨by rfl, ?_⟩) hHeld ?_
      · intro w' hSw; subst hSw; go_simp
      try simp only [Act.put, List.getElem_toArray, List.getElem_cons_succ, List.getElem_cons_zero, List.setIfInBounds_toArray, List.set_cons_zero, List.set_cons_succ]
      refine wpAnyH_ready (rs := [1]) (by kernel_rfl) (by simp) ?_
      refine allCall (f := 30) (args := #[.pointer qu]) rfl (by kernel_rfl) ?_ ?_ AllReadyH.nil
      · kernel_rfl
      · refine root_any (· < w.heap.size) Wq.heap.size u (.pointer qu) Wq.drew Hu3.out _ (fun qr hnr => ?_)
        refine ⟨_, rfl, rfl, ?_⟩
        try simp only [Act.put, List.getElem_toArray, List.getElem_cons_succ, List.getElem_cons_zero, List.setIfInBounds_toArray, List.set_cons_zero, List.set_cons_succ]
        refine wpAnyH_ready (rs := [6]) (by kernel_rfl) (by simp) ?_
        refine allCall (f := 32) (args := #[.pointer qr, .slice ak k2.length ck]) rfl (by kernel_rfl) ?_ ?_ AllReadyH.nil
        · kernel_rfl
        · obtain ⟨x1, -, hx1⟩ := By.on Hk3.out (w' := Wq.drew) (fun _ _ => rfl) (fun _ h => h)
          refine find_any (· < w.heap.size) Wq.heap.size _ _ k2 u _ _ Wq.drew hnr hx1 _ (fun py hy => ?_)
          refine ⟨_, rfl, rfl, ?_⟩
          clear hx1 hnr
          try simp only [Act.put, List.getElem_toArray, List.getElem_cons_succ, List.getElem_cons_zero, List.setIfInBounds_toArray, List.set_cons_zero, List.set_cons_succ]
          have hget : u.get k2 = (match u.find k2 with | .nil => none | .node _ v _ _ => some v) := rfl
          generalize u.find k2 = ty at *
          cases ty with
          | nil =>
            cases hy
            have Hp : Hid (dfP u (k2, v2) = true) := Lib.hid (by simp only [dfP, hget]; rfl)
            clear hget
            refine wpAnyH_take (i := 7) (v := .pointer none) rfl (by kernel_rfl) (by kernel_rfl) (by kernel_rfl) (fun _ _ _ h => h) (Or.inl ⟨by rfl, ?_⟩) hHeld ?_
            · intro w' hSw; subst hSw; go_simp
            try simp only [Act.put, List.getElem_toArray, List.getElem_cons_succ, List.getElem_cons_zero, List.setIfInBounds_toArray, List.set_cons_zero, List.set_cons_succ]
            refine wpAnyH_done (by kernel_rfl) ?_ _
            gi_wp2_with fail
            refine wpIn_region_held (S := fun w' => w' = Wq.drew.drew) (by kernel_rfl) (by rintro ⟨a, w, h⟩; exact h) (by kernel_rfl) rfl (fun hHeld => ?_)
            refine wpAnyH_take (i := 0) (v := .pointer none) rfl (by kernel_rfl) (by kernel_rfl) (by kernel_rfl) (fun _ _ _ h => h) (Or.inl ⟨by rfl, ?_⟩) hHeld ?_
            · intro w' hSw; subst hSw; go_simp
            try simp only [Act.put, List.getElem_toArray, List.getElem_cons_succ, List.getElem_cons_zero, List.setIfInBounds_toArray, List.set_cons_zero, List.set_cons_succ]
            refine wpAnyH_take (i := 1) (v := .bool true) rfl (by kernel_rfl) (by kernel_rfl) (by kernel_rfl) (fun _ _ _ h => h) (Or.inl ⟨by rfl, ?_⟩) hHeld ?_
            · intro w' hSw; subst hSw; go_simp
            try simp only [Act.put, List.getElem_toArray, List.getElem_cons_succ, List.getElem_cons_zero, List.setIfInBounds_toArray, List.set_cons_zero, List.set_cons_succ]
            refine wpAnyH_take (i := 2) (v := .bool true) rfl (by kernel_rfl) (by kernel_rfl) (by kernel_rfl) (fun _ _ _ h => h) (Or.inl ⟨by rfl, ?_⟩) hHeld ?_
            · intro w' hSw; subst hSw; go_simp
            try simp only [Act.put, List.getElem_toArray, List.getElem_cons_succ, List.getElem_cons_zero, List.setIfInBounds_toArray, List.set_cons_zero, List.set_cons_succ]
            refine wpAnyH_take (i := 3) (v := undef) rfl (by kernel_rfl) (by kernel_rfl) (by kernel_rfl) (fun _ _ _ h => h) (Or.inr ⟨by kernel_rfl, rfl⟩) hHeld ?_
            try simp only [Act.put, List.getElem_toArray, List.getElem_cons_succ, List.getElem_cons_zero, List.setIfInBounds_toArray, List.set_cons_zero, List.set_cons_succ]
            refine wpAnyH_take (i := 4) (v := undef) rfl (by kernel_rfl) (by kernel_rfl) (by kernel_rfl) (fun _ _ _ h => h) (Or.inr ⟨by kernel_rfl, rfl⟩) hHeld ?_
            try simp only [Act.put, List.getElem_toArray, List.getElem_cons_succ, List.getElem_cons_zero, List.setIfInBounds_toArray, List.set_cons_zero, List.set_cons_succ]
            refine wpAnyH_take (i := 5) (v := undef) rfl (by kernel_rfl) (by kernel_rfl) (by kernel_rfl) (fun _ _ _ h => h) (Or.inr ⟨by kernel_rfl, rfl⟩) hHeld ?_
            try simp only [Act.put, List.getElem_toArray, List.getElem_cons_succ, List.getElem_cons_zero, List.setIfInBounds_toArray, List.set_cons_zero, List.set_cons_succ]
            refine wpAnyH_take (i := 6) (v := undef) rfl (by kernel_rfl) (by kernel_rfl) (by kernel_rfl) (fun _ _ _ h => h) (Or.inr ⟨by kernel_rfl, rfl⟩) hHeld ?_
            try simp only [Act.put, List.getElem_toArray, List.getElem_cons_succ, List.getElem_cons_zero, List.setIfInBounds_toArray, List.set_cons_zero, List.set_cons_succ]
            refine wpAnyH_take (i := 7) (v := undef) rfl (by kernel_rfl) (by kernel_rfl) (by kernel_rfl) (fun _ _ _ h => h) (Or.inr ⟨by kernel_rfl, rfl⟩) hHeld ?_
            try simp only [Act.put, List.getElem_toArray, List.getElem_cons_succ, List.getElem_cons_zero, List.setIfInBounds_toArray, List.set_cons_zero, List.set_cons_succ]
            refine wpAnyH_take (i := 8) (v := undef) rfl (by kernel_rfl) (by kernel_rfl) (by kernel_rfl) (fun _ _ _ h => h) (Or.inr ⟨by kernel_rfl, rfl⟩) hHeld ?_
            try simp only [Act.put, List.getElem_toArray, List.getElem_cons_succ, List.getElem_cons_zero, List.setIfInBounds_toArray, List.set_cons_zero, List.set_cons_succ]
            refine wpAnyH_take (i := 9) (v := undef) rfl (by kernel_rfl) (by kernel_rfl) (by kernel_rfl) (fun _ _ _ h => h) (Or.inr ⟨by kernel_rfl, rfl⟩) hHeld ?_
            try simp only [Act.put, List.getElem_toArray, List.getElem_cons_succ, List.getElem_cons_zero, List.setIfInBounds_toArray, List.set_cons_zero, List.set_cons_succ]
            refine wpAnyH_take (i := 10) (v := undef) rfl (by kernel_rfl) (by kernel_rfl) (by kernel_rfl) (fun _ _ _ h => h) (Or.inr ⟨by kernel_rfl, rfl⟩) hHeld ?_
            try simp only [Act.put, List.getElem_toArray, List.getElem_cons_succ, List.getElem_cons_zero, List.setIfInBounds_toArray, List.set_cons_zero, List.set_cons_succ]
            refine wpAnyH_take (i := 11) (v := undef) rfl (by kernel_rfl) (by kernel_rfl) (by kernel_rfl) (fun _ _ _ h => h) (Or.inr ⟨by kernel_rfl, rfl⟩) hHeld ?_
            try simp only [Act.put, List.getElem_toArray, List.getElem_cons_succ, List.getElem_cons_zero, List.setIfInBounds_toArray, List.set_cons_zero, List.set_cons_succ]
            refine wpAnyH_take (i := 12) (v := undef) rfl (by kernel_rfl) (by kernel_rfl) (by kernel_rfl) (fun _ _ _ h => h) (Or.inr ⟨by kernel_rfl, rfl⟩) hHeld ?_
            try simp only [Act.put, List.getElem_toArray, List.getElem_cons_succ, List.getElem_cons_zero, List.setIfInBounds_toArray, List.set_cons_zero, List.set_cons_succ]
            refine wpAnyH_take (i := 13) (v := .bool true) rfl (by kernel_rfl) (by kernel_rfl) (by kernel_rfl) (fun _ _ _ h => h) (Or.inl ⟨by rfl, ?_⟩) hHeld ?_
            · intro w' hSw; subst hSw; go_simp
            try simp only [Act.put, List.getElem_toArray, List.getElem_cons_succ, List.getElem_cons_zero, List.setIfInBounds_toArray, List.set_cons_zero, List.set_cons_succ]
            refine wpAnyH_done (by kernel_rfl) ?_ _
            gi_wp2_with fail
            have hWr : Wq.drew.drew.drew.heap.size = Wq.heap.size := rfl
            have hky := By.bytes Hk3.out (hi := Wq.heap.size) (fun z hz => by have := Hs9.out; have : z < w.heap.size := hz; omega)
            have hvy := By.bytes Hv3.out (hi := Wq.heap.size) (fun z hz => by have := Hs9.out; have : z < w.heap.size := hz; omega)
            have hobr : w.heap.size + 1 < Wq.heap.size := by have := Hs9.out; omega
            have hb2q : b2 < Wq.heap.size := by have := Hs9.out; have : b2 < w.heap.size := hb2; omega
            have hP0 := HV3.out.prs
            obtain ⟨Wr, eWr⟩ : ∃ Wr, Wr = Wq.drew.drew.drew := ⟨_, rfl⟩
            have hOr : Only (fun _ => False) Wq Wr := by rw [eWr]; exact ((Only.drew Wq).trans (Only.drew _)).trans (Only.drew _)
            have hsr : Wr.heap.size = Wq.heap.size := by rw [eWr]; rfl
            have hhr : Wr.heap = Wq.heap := by rw [eWr]; rfl
            have Hky := Lib.hid (hky.agree (flat_loc _) (w' := Wr) (fun z _ _ => by rw [hhr]))
            have Hvy := Lib.hid (hvy.agree (flat_loc _) (w' := Wr) (fun z _ _ => by rw [hhr]))
            rw [← hsr] at Hky Hvy hobr hb2q
            have cell : ∀ q, Wr.cell? q = Wq.cell? q := fun q => World.cell?_of_block (by rw [hhr])
            rw [← cell] at n0 n1 c9
            have HP0 := Lib.hid (hP0.same (w' := Wr) (fun g _ => by rw [hhr]) (fun g _ => by rw [hhr]))
            have HOr := Lib.hid hOr
            have Hsr := Lib.hid hsr
            have hS0 : Only (fun z => w.heap.size ≤ z) Wr Wr := Only.refl _ _
            have hbS : ∀ w', Only (fun z => w.heap.size ≤ z) Wr w' → w'.cell? ⟨b2, 0, none⟩ = some (.slice ak k2.length ck) ∧ w'.cell? ⟨b2, 1, none⟩ = some (.slice av v2.length cv) := fun w' h => ⟨(World.cell?_of_block (h.block b2 hb2q (by have : b2 < w.heap.size := hb2; omega))).trans n0, (World.cell?_of_block (h.block b2 hb2q (by have : b2 < w.heap.size := hb2; omega))).trans n1⟩
            clear hky hvy hWr hP0 hOr hsr hhr cell c6
            refine wpIn_region_held (S := fun w' => Only (fun z => w.heap.size ≤ z) Wq.drew.drew.drew w') (by kernel_rfl) (by rintro ⟨a, w, h⟩; exact h) (by kernel_rfl) (Only.refl _ _) (fun hHeld => ?_)
            rw [← eWr] at hHeld ⊢
            clear eWr n0 n1
            refine wpAnyH_take (i := 1) (v := .pointer (some ⟨b2, 0, none⟩)) rfl (by kernel_rfl) (by kernel_rfl) (by kernel_rfl) (fun _ _ _ h => h) (Or.inl ⟨by rfl, ?_⟩) hHeld ?_
            · intro w' hSw; go_simp
            try simp only [Act.put, List.getElem_toArray, List.getElem_cons_succ, List.getElem_cons_zero, List.setIfInBounds_toArray, List.set_cons_zero, List.set_cons_succ]
            refine wpAnyH_take (i := 2) (v := .pointer (some ⟨b2, 0, none⟩)) rfl (by kernel_rfl) (by kernel_rfl) (by kernel_rfl) (fun _ _ _ h => h) (Or.inl ⟨by rfl, ?_⟩) hHeld ?_
            · intro w' hSw; go_simp
            try simp only [Act.put, List.getElem_toArray, List.getElem_cons_succ, List.getElem_cons_zero, List.setIfInBounds_toArray, List.set_cons_zero, List.set_cons_succ]
            refine wpAnyH_take (i := 3) (v := .pointer (some ⟨b2, 0, none⟩)) rfl (by kernel_rfl) (by kernel_rfl) (by kernel_rfl) (fun _ _ _ h => h) (Or.inl ⟨by rfl, ?_⟩) hHeld ?_
            · intro w' hSw; go_simp
            try simp only [Act.put, List.getElem_toArray, List.getElem_cons_succ, List.getElem_cons_zero, List.setIfInBounds_toArray, List.set_cons_zero, List.set_cons_succ]
            refine wpAnyH_take (i := 4) (v := .slice ak k2.length ck) rfl (by kernel_rfl) (by kernel_rfl) (by kernel_rfl) (fun _ _ _ h => h) (Or.inl ⟨by rfl, ?_⟩) hHeld ?_
            · intro w' hSw; have kx := (hbS w' hSw).1; go_simp
            try simp only [Act.put, List.getElem_toArray, List.getElem_cons_succ, List.getElem_cons_zero, List.setIfInBounds_toArray, List.set_cons_zero, List.set_cons_succ]
            refine wpAnyH_take (i := 6) (v := .pointer (some ⟨b2, 0, none⟩)) rfl (by kernel_rfl) (by kernel_rfl) (by kernel_rfl) (fun _ _ _ h => h) (Or.inl ⟨by rfl, ?_⟩) hHeld ?_
            · intro w' hSw; go_simp
            try simp only [Act.put, List.getElem_toArray, List.getElem_cons_succ, List.getElem_cons_zero, List.setIfInBounds_toArray, List.set_cons_zero, List.set_cons_succ]
            refine wpAnyH_take (i := 7) (v := .pointer (some ⟨b2, 0, none⟩)) rfl (by kernel_rfl) (by kernel_rfl) (by kernel_rfl) (fun _ _ _ h => h) (Or.inl ⟨by rfl, ?_⟩) hHeld ?_
            · intro w' hSw; go_simp
            try simp only [Act.put, List.getElem_toArray, List.getElem_cons_succ, List.getElem_cons_zero, List.setIfInBounds_toArray, List.set_cons_zero, List.set_cons_succ]
            refine wpAnyH_take (i := 8) (v := .pointer (some ⟨b2, 1, none⟩)) rfl (by kernel_rfl) (by kernel_rfl) (by kernel_rfl) (fun _ _ _ h => h) (Or.inl ⟨by rfl, ?_⟩) hHeld ?_
            · intro w' hSw; go_simp
            try simp only [Act.put, List.getElem_toArray, List.getElem_cons_succ, List.getElem_cons_zero, List.setIfInBounds_toArray, List.set_cons_zero, List.set_cons_succ]
            refine wpAnyH_take (i := 9) (v := .slice av v2.length cv) rfl (by kernel_rfl) (by kernel_rfl) (by kernel_rfl) (fun _ _ _ h => h) (Or.inl ⟨by rfl, ?_⟩) hHeld ?_
            · intro w' hSw; have kx := (hbS w' hSw).2; go_simp
            try simp only [Act.put, List.getElem_toArray, List.getElem_cons_succ, List.getElem_cons_zero, List.setIfInBounds_toArray, List.set_cons_zero, List.set_cons_succ]
            refine wpAnyH_ready (rs := [0, 5]) (by kernel_rfl) (by simp) ?_
            refine allVal (v := .slice po df.length co) (w' := Wr) rfl (by kernel_rfl) ?_ hS0 ?_ ?_
            · go_simp
            · try simp only [Act.put, List.getElem_toArray, List.getElem_cons_succ, List.getElem_cons_zero, List.setIfInBounds_toArray, List.set_cons_zero, List.set_cons_succ]
              refine wpAnyH_ready (rs := [5]) (by kernel_rfl) (by simp) ?_
              refine allCall (f := 34) (args := #[.slice ak k2.length ck]) rfl (by kernel_rfl) ?_ ?_ AllReadyH.nil
              · kernel_rfl
              · refine Clone_any Wr.heap.size 0 Wr.heap.size k2 _ Wr Hky.out (Nat.le_refl _) (Nat.le_refl _) hln.1 _ (fun w1 k1 hB1 ho1 => ?_)
                have hS1 : Only (fun z => w.heap.size ≤ z) Wr w1 := Below.only hB1
                have c91 := (World.cell?_of_block (hB1.block _ hobr)).trans c9
                obtain ⟨ak1, ck1, rfl, -, -, -⟩ := (OwnB.bytes ho1).form
                refine ⟨_, rfl, hS1, ?_⟩
                try simp only [Act.put, List.getElem_toArray, List.getElem_cons_succ, List.getElem_cons_zero, List.setIfInBounds_toArray, List.set_cons_zero, List.set_cons_succ]
                refine wpAnyH_ready (rs := [10]) (by kernel_rfl) (by simp) ?_
                refine allCall (f := 34) (args := #[.slice av v2.length cv]) rfl (by kernel_rfl) ?_ ?_ AllReadyH.nil
                · kernel_rfl
                · refine Clone_any w1.heap.size 0 Wr.heap.size v2 _ w1 (Hvy.out.below (flat_loc _) hB1 (Nat.le_refl _)) (Nat.le_refl _) hB1.size hln.2 _ (fun w2 v1 hB2 ho2 => ?_)
                  have hB02 := hB1.trans (hB2.mono hB1.size)
                  have hS2 : Only (fun z => w.heap.size ≤ z) Wr w2 := Below.only hB02
                  have c92 := (World.cell?_of_block (hB02.block _ hobr)).trans c9
                  obtain ⟨av1, cv1, rfl, -, -, -⟩ := (OwnB.bytes ho2).form
                  refine ⟨_, rfl, hS2, ?_⟩
                  have hHeld := hS2
                  try simp only [Act.put, List.getElem_toArray, List.getElem_cons_succ, List.getElem_cons_zero, List.setIfInBounds_toArray, List.set_cons_zero, List.set_cons_succ]
                  refine wpAnyH_take (i := 11) (v := .agg #[.slice ak1 k2.length ck1, .slice av1 v2.length cv1]) rfl (by kernel_rfl) (by kernel_rfl) (by kernel_rfl) (fun _ _ _ h => h) (Or.inl ⟨by rfl, ?_⟩) hHeld ?_
                  · intro w' hSw; go_simp
                  try simp only [Act.put, List.getElem_toArray, List.getElem_cons_succ, List.getElem_cons_zero, List.setIfInBounds_toArray, List.set_cons_zero, List.set_cons_succ]
                  refine wpAnyH_ready (rs := [12]) (by kernel_rfl) (by simp) ?_
                  have hS3 : Only (fun z => w.heap.size ≤ z) Wr (w2.alloc (.cells #[.slice ak1 k2.length ck1, .slice av1 v2.length cv1] 43)) := hS2.trans (Only.alloc w2 _)
                  have hB03 : Below Wr.heap.size Wr (w2.alloc (.cells #[.slice ak1 k2.length ck1, .slice av1 v2.length cv1] 43)) := hB02.trans (((Below.refl _ _).alloc (Nat.le_refl _) _).mono hB02.size)
                  have c93 := (World.cell?_of_block (hB03.block _ hobr)).trans c9
                  refine allVal rfl (by kernel_rfl) (execBuild (run_bsP ak1 av1 k2.length v2.length ck1 cv1 w2) rfl (by kernel_rfl)) hS3 ?_ AllReadyH.nil
                  try simp only [Act.put, List.getElem_toArray, List.getElem_cons_succ, List.getElem_cons_zero, List.setIfInBounds_toArray, List.set_cons_zero, List.set_cons_succ]
                  have hk9 := Own.kept ho1 hB2
                  have hv9 := OwnB.mono ho2 hB1.size
                  have hkv9 : ∀ g, Value.ownBlock (.slice ak1 k2.length ck1) = some g → Value.ownBlock (.slice av1 v2.length cv1) ≠ some g := fun g e1 e2 => by
                    have h1 := (ho1.lt g e1).2
                    have h2 := (ho2.lt g e2).1
                    omega
                  have hsr := Hsr.out
                  have hs9 := Hs9.out
                  have hLr : L + 1 ≤ Wr.heap.size := by omega
                  have hadd := HP0.out.add (x := (k2, v2)) (w2 := w2.alloc (.cells #[.slice ak1 k2.length ck1, .slice av1 v2.length cv1] 43)) hLr hB02 hk9 hv9 hkv9 rfl (by omega) (n := w2.heap.size) rfl
                  obtain ⟨pp, pm, pc, w5, hrun, hO5, hs5, hP5, hm5⟩ := hadd
                  have hlt5 := HP0.out.lt.1
                  have hno : ∀ z, z ≤ L → ¬ Value.ownBlock (.slice po df.length co) = some z := fun z hz e => by have := (hlt5 z e).1; omega
                  have hVr := HV3.out.rec2 (W3 := Wr) (HOr.out.mono (fun _ _ e => e.elim)) ((HOr.out.block L (by omega) (fun e => e)).trans HV3.out.rcd)
                  have hT := hVr.told (o2 := .loop (RL .ready none)) (by omega) hO5 hP5 hm5 (blks_add hk9 hv9 ps)
                  have c95 := (World.cell?_of_block (hO5.block _ hobr (hno (w.heap.size + 1) (by omega)))).trans c9
                  have f95 : w5.frozen? ⟨w.heap.size + 1, 0, none⟩ = false := (hO5.blk hVr.out (hno (w.heap.size + 1) (by omega))).free 0
                  have hS5 : Only (fun z => w.heap.size ≤ z) Wr w5 := hO5.mono (fun z _ e => by have := (hlt5 z e).1; omega)
                  have hS6 : Only (fun z => w.heap.size ≤ z) Wr (w5.setCell ⟨w.heap.size + 1, 0, none⟩ (.slice pp pm pc)) := hS5.trans (Only.setCell (A := fun z => w.heap.size ≤ z) w5 (p := ⟨w.heap.size + 1, 0, none⟩) (by show w.heap.size ≤ w.heap.size + 1; omega) _)
                  have hl6 : (w5.setCell ⟨w.heap.size + 1, 0, none⟩ (.slice pp pm pc)).heap[L]? = some (.loop (RL .busy none)) := (Below.heap_setCell _ _ _ _ (by show L ≠ w.heap.size + 1; omega)).trans ((hO5.block L (by omega) (hno L (Nat.le_refl _))).trans ((HOr.out.block L (by omega) (fun e => e)).trans Hl3.out))
                  have hfin : Told (DfJ w.heap.size L (w.heap.size + 1) [(w.heap.size, .pointer qu, 25)] (dfP u) (.loop (RL .ready none))) (fun _ _ => False) C2 d2 (k2, v2) Wy (.returned (.bool true)) ((w5.setCell ⟨w.heap.size + 1, 0, none⟩ (.slice pp pm pc)).putObj L (.loop (RL .ready none))) :=
                    ⟨fun k => C2 k ∨ (Wr.heap.size ≤ k ∧ k < w5.heap.size), ((Ho3.out.mono (fun z _ e => e ▸ HV3.out.cL)).trans (HOr.out.mono (fun _ _ e => e.elim))).trans hT.2, ⟨fun z e => .inl e, fun z e => e.imp id (fun h => by have := h.1; omega)⟩, .inl ⟨rfl, by rw [DfJ, List.filter_append, Hdf.out, List.filter_cons, if_pos Hp.out]; exact ⟨_, _, hT.1⟩⟩⟩
                  have Hfin := Lib.hid hfin
                  have Hl6 := Lib.hid hl6
                  clear hfin hl6 hT hVr hno hlt5 hk9 hv9 hkv9 hP5 hm5 hsr hs9 hs5
                  refine wpAnyH_ready (rs := [13]) (by kernel_rfl) (by simp) ?_
                  refine allVal rfl (by kernel_rfl) (execApp hrun rfl (by kernel_rfl) (by kernel_rfl)) hS5 ?_ AllReadyH.nil
                  try simp only [Act.put, List.getElem_toArray, List.getElem_cons_succ, List.getElem_cons_zero, List.setIfInBounds_toArray, List.set_cons_zero, List.set_cons_succ]
                  refine wpAnyH_ready (rs := [14]) (by kernel_rfl) (by simp) ?_
                  refine allSkip (w' := (w5.setCell ⟨w.heap.size + 1, 0, none⟩ (.slice pp pm pc))) rfl (by kernel_rfl) ?_ hS6 ?_ AllReadyH.nil
                  · go_simp
                  try simp only [Act.put, List.getElem_toArray, List.getElem_cons_succ, List.getElem_cons_zero, List.setIfInBounds_toArray, List.set_cons_zero, List.set_cons_succ]
                  refine wpAnyH_done (by kernel_rfl) ?_ _
                  gi_wp2_with fail
                  exact roundPost_normalR HRL.out Hl6.out Hfin.out
            · refine allCall (f := 34) (args := #[.slice ak k2.length ck]) rfl (by kernel_rfl) ?_ ?_ AllReadyH.nil
              · kernel_rfl
              · refine Clone_any Wr.heap.size 0 Wr.heap.size k2 _ Wr Hky.out (Nat.le_refl _) (Nat.le_refl _) hln.1 _ (fun w1 k1 hB1 ho1 => ?_)
                have hS1 : Only (fun z => w.heap.size ≤ z) Wr w1 := Below.only hB1
                have c91 := (World.cell?_of_block (hB1.block _ hobr)).trans c9
                obtain ⟨ak1, ck1, rfl, -, -, -⟩ := (OwnB.bytes ho1).form
                refine ⟨_, rfl, hS1, ?_⟩
                try simp only [Act.put, List.getElem_toArray, List.getElem_cons_succ, List.getElem_cons_zero, List.setIfInBounds_toArray, List.set_cons_zero, List.set_cons_succ]
                refine wpAnyH_ready (rs := [0, 10]) (by kernel_rfl) (by simp) ?_
                refine allVal (v := .slice po df.length co) (w' := w1) rfl (by kernel_rfl) ?_ hS1 ?_ ?_
                · go_simp
                · try simp only [Act.put, List.getElem_toArray, List.getElem_cons_succ, List.getElem_cons_zero, List.setIfInBounds_toArray, List.set_cons_zero, List.set_cons_succ]
                  refine wpAnyH_ready (rs := [10]) (by kernel_rfl) (by simp) ?_
                  refine allCall (f := 34) (args := #[.slice av v2.length cv]) rfl (by kernel_rfl) ?_ ?_ AllReadyH.nil
                  · kernel_rfl
                  · refine Clone_any w1.heap.size 0 Wr.heap.size v2 _ w1 (Hvy.out.below (flat_loc _) hB1 (Nat.le_refl _)) (Nat.le_refl _) hB1.size hln.2 _ (fun w2 v1 hB2 ho2 => ?_)
                    have hB02 := hB1.trans (hB2.mono hB1.size)
                    have hS2 : Only (fun z => w.heap.size ≤ z) Wr w2 := Below.only hB02
                    have c92 := (World.cell?_of_block (hB02.block _ hobr)).trans c9
                    obtain ⟨av1, cv1, rfl, -, -, -⟩ := (OwnB.bytes ho2).form
                    refine ⟨_, rfl, hS2, ?_⟩
                    have hHeld := hS2
                    try simp only [Act.put, List.getElem_toArray, List.getElem_cons_succ, List.getElem_cons_zero, List.setIfInBounds_toArray, List.set_cons_zero, List.set_cons_succ]
                    refine wpAnyH_take (i := 11) (v := .agg #[.slice ak1 k2.length ck1, .slice av1 v2.length cv1]) rfl (by kernel_rfl) (by kernel_rfl) (by kernel_rfl) (fun _ _ _ h => h) (Or.inl ⟨by rfl, ?_⟩) hHeld ?_
                    · intro w' hSw; go_simp
                    try simp only [Act.put, List.getElem_toArray, List.getElem_cons_succ, List.getElem_cons_zero, List.setIfInBounds_toArray, List.set_cons_zero, List.set_cons_succ]
                    refine wpAnyH_ready (rs := [12]) (by kernel_rfl) (by simp) ?_
                    have hS3 : Only (fun z => w.heap.size ≤ z) Wr (w2.alloc (.cells #[.slice ak1 k2.length ck1, .slice av1 v2.length cv1] 43)) := hS2.trans (Only.alloc w2 _)
                    have hB03 : Below Wr.heap.size Wr (w2.alloc (.cells #[.slice ak1 k2.length ck1, .slice av1 v2.length cv1] 43)) := hB02.trans (((Below.refl _ _).alloc (Nat.le_refl _) _).mono hB02.size)
                    have c93 := (World.cell?_of_block (hB03.block _ hobr)).trans c9
                    refine allVal rfl (by kernel_rfl) (execBuild (run_bsP ak1 av1 k2.length v2.length ck1 cv1 w2) rfl (by kernel_rfl)) hS3 ?_ AllReadyH.nil
                    try simp only [Act.put, List.getElem_toArray, List.getElem_cons_succ, List.getElem_cons_zero, List.setIfInBounds_toArray, List.set_cons_zero, List.set_cons_succ]
                    have hk9 := Own.kept ho1 hB2
                    have hv9 := OwnB.mono ho2 hB1.size
                    have hkv9 : ∀ g, Value.ownBlock (.slice ak1 k2.length ck1) = some g → Value.ownBlock (.slice av1 v2.length cv1) ≠ some g := fun g e1 e2 => by
                      have h1 := (ho1.lt g e1).2
                      have h2 := (ho2.lt g e2).1
                      omega
                    have hsr := Hsr.out
                    have hs9 := Hs9.out
                    have hLr : L + 1 ≤ Wr.heap.size := by omega
                    have hadd := HP0.out.add (x := (k2, v2)) (w2 := w2.alloc (.cells #[.slice ak1 k2.length ck1, .slice av1 v2.length cv1] 43)) hLr hB02 hk9 hv9 hkv9 rfl (by omega) (n := w2.heap.size) rfl
                    obtain ⟨pp, pm, pc, w5, hrun, hO5, hs5, hP5, hm5⟩ := hadd
                    have hlt5 := HP0.out.lt.1
                    have hno : ∀ z, z ≤ L → ¬ Value.ownBlock (.slice po df.length co) = some z := fun z hz e => by have := (hlt5 z e).1; omega
                    have hVr := HV3.out.rec2 (W3 := Wr) (HOr.out.mono (fun _ _ e => e.elim)) ((HOr.out.block L (by omega) (fun e => e)).trans HV3.out.rcd)
                    have hT := hVr.told (o2 := .loop (RL .ready none)) (by omega) hO5 hP5 hm5 (blks_add hk9 hv9 ps)
                    have c95 := (World.cell?_of_block (hO5.block _ hobr (hno (w.heap.size + 1) (by omega)))).trans c9
                    have f95 : w5.frozen? ⟨w.heap.size + 1, 0, none⟩ = false := (hO5.blk hVr.out (hno (w.heap.size + 1) (by omega))).free 0
                    have hS5 : Only (fun z => w.heap.size ≤ z) Wr w5 := hO5.mono (fun z _ e => by have := (hlt5 z e).1; omega)
                    have hS6 : Only (fun z => w.heap.size ≤ z) Wr (w5.setCell ⟨w.heap.size + 1, 0, none⟩ (.slice pp pm pc)) := hS5.trans (Only.setCell (A := fun z => w.heap.size ≤ z) w5 (p := ⟨w.heap.size + 1, 0, none⟩) (by show w.heap.size ≤ w.heap.size + 1; omega) _)
                    have hl6 : (w5.setCell ⟨w.heap.size + 1, 0, none⟩ (.slice pp pm pc)).heap[L]? = some (.loop (RL .busy none)) := (Below.heap_setCell _ _ _ _ (by show L ≠ w.heap.size + 1; omega)).trans ((hO5.block L (by omega) (hno L (Nat.le_refl _))).trans ((HOr.out.block L (by omega) (fun e => e)).trans Hl3.out))
                    have hfin : Told (DfJ w.heap.size L (w.heap.size + 1) [(w.heap.size, .pointer qu, 25)] (dfP u) (.loop (RL .ready none))) (fun _ _ => False) C2 d2 (k2, v2) Wy (.returned (.bool true)) ((w5.setCell ⟨w.heap.size + 1, 0, none⟩ (.slice pp pm pc)).putObj L (.loop (RL .ready none))) :=
                      ⟨fun k => C2 k ∨ (Wr.heap.size ≤ k ∧ k < w5.heap.size), ((Ho3.out.mono (fun z _ e => e ▸ HV3.out.cL)).trans (HOr.out.mono (fun _ _ e => e.elim))).trans hT.2, ⟨fun z e => .inl e, fun z e => e.imp id (fun h => by have := h.1; omega)⟩, .inl ⟨rfl, by rw [DfJ, List.filter_append, Hdf.out, List.filter_cons, if_pos Hp.out]; exact ⟨_, _, hT.1⟩⟩⟩
                    have Hfin := Lib.hid hfin
                    have Hl6 := Lib.hid hl6
                    clear hfin hl6 hT hVr hno hlt5 hk9 hv9 hkv9 hP5 hm5 hsr hs9 hs5
                    refine wpAnyH_ready (rs := [13]) (by kernel_rfl) (by simp) ?_
                    refine allVal rfl (by kernel_rfl) (execApp hrun rfl (by kernel_rfl) (by kernel_rfl)) hS5 ?_ AllReadyH.nil
                    try simp only [Act.put, List.getElem_toArray, List.getElem_cons_succ, List.getElem_cons_zero, List.setIfInBounds_toArray, List.set_cons_zero, List.set_cons_succ]
                    refine wpAnyH_ready (rs := [14]) (by kernel_rfl) (by simp) ?_
                    refine allSkip (w' := (w5.setCell ⟨w.heap.size + 1, 0, none⟩ (.slice pp pm pc))) rfl (by kernel_rfl) ?_ hS6 ?_ AllReadyH.nil
                    · go_simp
                    try simp only [Act.put, List.getElem_toArray, List.getElem_cons_succ, List.getElem_cons_zero, List.setIfInBounds_toArray, List.set_cons_zero, List.set_cons_succ]
                    refine wpAnyH_done (by kernel_rfl) ?_ _
                    gi_wp2_with fail
                    exact roundPost_normalR HRL.out Hl6.out Hfin.out
                · refine allCall (f := 34) (args := #[.slice av v2.length cv]) rfl (by kernel_rfl) ?_ ?_ AllReadyH.nil
                  · kernel_rfl
                  · refine Clone_any w1.heap.size 0 Wr.heap.size v2 _ w1 (Hvy.out.below (flat_loc _) hB1 (Nat.le_refl _)) (Nat.le_refl _) hB1.size hln.2 _ (fun w2 v1 hB2 ho2 => ?_)
                    have hB02 := hB1.trans (hB2.mono hB1.size)
                    have hS2 : Only (fun z => w.heap.size ≤ z) Wr w2 := Below.only hB02
                    have c92 := (World.cell?_of_block (hB02.block _ hobr)).trans c9
                    obtain ⟨av1, cv1, rfl, -, -, -⟩ := (OwnB.bytes ho2).form
                    refine ⟨_, rfl, hS2, ?_⟩
                    have hHeld := hS2
                    try simp only [Act.put, List.getElem_toArray, List.getElem_cons_succ, List.getElem_cons_zero, List.setIfInBounds_toArray, List.set_cons_zero, List.set_cons_succ]
                    refine wpAnyH_take (i := 11) (v := .agg #[.slice ak1 k2.length ck1, .slice av1 v2.length cv1]) rfl (by kernel_rfl) (by kernel_rfl) (by kernel_rfl) (fun _ _ _ h => h) (Or.inl ⟨by rfl, ?_⟩) hHeld ?_
                    · intro w' hSw; go_simp
                    try simp only [Act.put, List.getElem_toArray, List.getElem_cons_succ, List.getElem_cons_zero, List.setIfInBounds_toArray, List.set_cons_zero, List.set_cons_succ]
                    refine wpAnyH_ready (rs := [0, 12]) (by kernel_rfl) (by simp) ?_
                    refine allVal (v := .slice po df.length co) (w' := w2) rfl (by kernel_rfl) ?_ hS2 ?_ ?_
                    · go_simp
                    · try simp only [Act.put, List.getElem_toArray, List.getElem_cons_succ, List.getElem_cons_zero, List.setIfInBounds_toArray, List.set_cons_zero, List.set_cons_succ]
                      refine wpAnyH_ready (rs := [12]) (by kernel_rfl) (by simp) ?_
                      have hS3 : Only (fun z => w.heap.size ≤ z) Wr (w2.alloc (.cells #[.slice ak1 k2.length ck1, .slice av1 v2.length cv1] 43)) := hS2.trans (Only.alloc w2 _)
                      have hB03 : Below Wr.heap.size Wr (w2.alloc (.cells #[.slice ak1 k2.length ck1, .slice av1 v2.length cv1] 43)) := hB02.trans (((Below.refl _ _).alloc (Nat.le_refl _) _).mono hB02.size)
                      have c93 := (World.cell?_of_block (hB03.block _ hobr)).trans c9
                      refine allVal rfl (by kernel_rfl) (execBuild (run_bsP ak1 av1 k2.length v2.length ck1 cv1 w2) rfl (by kernel_rfl)) hS3 ?_ AllReadyH.nil
                      try simp only [Act.put, List.getElem_toArray, List.getElem_cons_succ, List.getElem_cons_zero, List.setIfInBounds_toArray, List.set_cons_zero, List.set_cons_succ]
                      have hk9 := Own.kept ho1 hB2
                      have hv9 := OwnB.mono ho2 hB1.size
                      have hkv9 : ∀ g, Value.ownBlock (.slice ak1 k2.length ck1) = some g → Value.ownBlock (.slice av1 v2.length cv1) ≠ some g := fun g e1 e2 => by
                        have h1 := (ho1.lt g e1).2
                        have h2 := (ho2.lt g e2).1
                        omega
                      have hsr := Hsr.out
                      have hs9 := Hs9.out
                      have hLr : L + 1 ≤ Wr.heap.size := by omega
                      have hadd := HP0.out.add (x := (k2, v2)) (w2 := w2.alloc (.cells #[.slice ak1 k2.length ck1, .slice av1 v2.length cv1] 43)) hLr hB02 hk9 hv9 hkv9 rfl (by omega) (n := w2.heap.size) rfl
                      obtain ⟨pp, pm, pc, w5, hrun, hO5, hs5, hP5, hm5⟩ := hadd
                      have hlt5 := HP0.out.lt.1
                      have hno : ∀ z, z ≤ L → ¬ Value.ownBlock (.slice po df.length co) = some z := fun z hz e => by have := (hlt5 z e).1; omega
                      have hVr := HV3.out.rec2 (W3 := Wr) (HOr.out.mono (fun _ _ e => e.elim)) ((HOr.out.block L (by omega) (fun e => e)).trans HV3.out.rcd)
                      have hT := hVr.told (o2 := .loop (RL .ready none)) (by omega) hO5 hP5 hm5 (blks_add hk9 hv9 ps)
                      have c95 := (World.cell?_of_block (hO5.block _ hobr (hno (w.heap.size + 1) (by omega)))).trans c9
                      have f95 : w5.frozen? ⟨w.heap.size + 1, 0, none⟩ = false := (hO5.blk hVr.out (hno (w.heap.size + 1) (by omega))).free 0
                      have hS5 : Only (fun z => w.heap.size ≤ z) Wr w5 := hO5.mono (fun z _ e => by have := (hlt5 z e).1; omega)
                      have hS6 : Only (fun z => w.heap.size ≤ z) Wr (w5.setCell ⟨w.heap.size + 1, 0, none⟩ (.slice pp pm pc)) := hS5.trans (Only.setCell (A := fun z => w.heap.size ≤ z) w5 (p := ⟨w.heap.size + 1, 0, none⟩) (by show w.heap.size ≤ w.heap.size + 1; omega) _)
                      have hl6 : (w5.setCell ⟨w.heap.size + 1, 0, none⟩ (.slice pp pm pc)).heap[L]? = some (.loop (RL .busy none)) := (Below.heap_setCell _ _ _ _ (by show L ≠ w.heap.size + 1; omega)).trans ((hO5.block L (by omega) (hno L (Nat.le_refl _))).trans ((HOr.out.block L (by omega) (fun e => e)).trans Hl3.out))
                      have hfin : Told (DfJ w.heap.size L (w.heap.size + 1) [(w.heap.size, .pointer qu, 25)] (dfP u) (.loop (RL .ready none))) (fun _ _ => False) C2 d2 (k2, v2) Wy (.returned (.bool true)) ((w5.setCell ⟨w.heap.size + 1, 0, none⟩ (.slice pp pm pc)).putObj L (.loop (RL .ready none))) :=
                        ⟨fun k => C2 k ∨ (Wr.heap.size ≤ k ∧ k < w5.heap.size), ((Ho3.out.mono (fun z _ e => e ▸ HV3.out.cL)).trans (HOr.out.mono (fun _ _ e => e.elim))).trans hT.2, ⟨fun z e => .inl e, fun z e => e.imp id (fun h => by have := h.1; omega)⟩, .inl ⟨rfl, by rw [DfJ, List.filter_append, Hdf.out, List.filter_cons, if_pos Hp.out]; exact ⟨_, _, hT.1⟩⟩⟩
                      have Hfin := Lib.hid hfin
                      have Hl6 := Lib.hid hl6
                      clear hfin hl6 hT hVr hno hlt5 hk9 hv9 hkv9 hP5 hm5 hsr hs9 hs5
                      refine wpAnyH_ready (rs := [13]) (by kernel_rfl) (by simp) ?_
                      refine allVal rfl (by kernel_rfl) (execApp hrun rfl (by kernel_rfl) (by kernel_rfl)) hS5 ?_ AllReadyH.nil
                      try simp only [Act.put, List.getElem_toArray, List.getElem_cons_succ, List.getElem_cons_zero, List.setIfInBounds_toArray, List.set_cons_zero, List.set_cons_succ]
                      refine wpAnyH_ready (rs := [14]) (by kernel_rfl) (by simp) ?_
                      refine allSkip (w' := (w5.setCell ⟨w.heap.size + 1, 0, none⟩ (.slice pp pm pc))) rfl (by kernel_rfl) ?_ hS6 ?_ AllReadyH.nil
                      · go_simp
                      try simp only [Act.put, List.getElem_toArray, List.getElem_cons_succ, List.getElem_cons_zero, List.setIfInBounds_toArray, List.set_cons_zero, List.set_cons_succ]
                      refine wpAnyH_done (by kernel_rfl) ?_ _
                      gi_wp2_with fail
                      exact roundPost_normalR HRL.out Hl6.out Hfin.out
                    · have hS3 : Only (fun z => w.heap.size ≤ z) Wr (w2.alloc (.cells #[.slice ak1 k2.length ck1, .slice av1 v2.length cv1] 43)) := hS2.trans (Only.alloc w2 _)
                      have hB03 : Below Wr.heap.size Wr (w2.alloc (.cells #[.slice ak1 k2.length ck1, .slice av1 v2.length cv1] 43)) := hB02.trans (((Below.refl _ _).alloc (Nat.le_refl _) _).mono hB02.size)
                      have c93 := (World.cell?_of_block (hB03.block _ hobr)).trans c9
                      refine allVal rfl (by kernel_rfl) (execBuild (run_bsP ak1 av1 k2.length v2.length ck1 cv1 w2) rfl (by kernel_rfl)) hS3 ?_ AllReadyH.nil
                      try simp only [Act.put, List.getElem_toArray, List.getElem_cons_succ, List.getElem_cons_zero, List.setIfInBounds_toArray, List.set_cons_zero, List.set_cons_succ]
                      refine wpAnyH_ready (rs := [0]) (by kernel_rfl) (by simp) ?_
                      refine allVal (v := .slice po df.length co) (w' := w2.alloc (.cells #[.slice ak1 k2.length ck1, .slice av1 v2.length cv1] 43)) rfl (by kernel_rfl) ?_ hS3 ?_ AllReadyH.nil
                      · go_simp
                      try simp only [Act.put, List.getElem_toArray, List.getElem_cons_succ, List.getElem_cons_zero, List.setIfInBounds_toArray, List.set_cons_zero, List.set_cons_succ]
                      have hk9 := Own.kept ho1 hB2
                      have hv9 := OwnB.mono ho2 hB1.size
                      have hkv9 : ∀ g, Value.ownBlock (.slice ak1 k2.length ck1) = some g → Value.ownBlock (.slice av1 v2.length cv1) ≠ some g := fun g e1 e2 => by
                        have h1 := (ho1.lt g e1).2
                        have h2 := (ho2.lt g e2).1
                        omega
                      have hsr := Hsr.out
                      have hs9 := Hs9.out
                      have hLr : L + 1 ≤ Wr.heap.size := by omega
                      have hadd := HP0.out.add (x := (k2, v2)) (w2 := w2.alloc (.cells #[.slice ak1 k2.length ck1, .slice av1 v2.length cv1] 43)) hLr hB02 hk9 hv9 hkv9 rfl (by omega) (n := w2.heap.size) rfl
                      obtain ⟨pp, pm, pc, w5, hrun, hO5, hs5, hP5, hm5⟩ := hadd
                      have hlt5 := HP0.out.lt.1
                      have hno : ∀ z, z ≤ L → ¬ Value.ownBlock (.slice po df.length co) = some z := fun z hz e => by have := (hlt5 z e).1; omega
                      have hVr := HV3.out.rec2 (W3 := Wr) (HOr.out.mono (fun _ _ e => e.elim)) ((HOr.out.block L (by omega) (fun e => e)).trans HV3.out.rcd)
                      have hT := hVr.told (o2 := .loop (RL .ready none)) (by omega) hO5 hP5 hm5 (blks_add hk9 hv9 ps)
                      have c95 := (World.cell?_of_block (hO5.block _ hobr (hno (w.heap.size + 1) (by omega)))).trans c9
                      have f95 : w5.frozen? ⟨w.heap.size + 1, 0, none⟩ = false := (hO5.blk hVr.out (hno (w.heap.size + 1) (by omega))).free 0
                      have hS5 : Only (fun z => w.heap.size ≤ z) Wr w5 := hO5.mono (fun z _ e => by have := (hlt5 z e).1; omega)
                      have hS6 : Only (fun z => w.heap.size ≤ z) Wr (w5.setCell ⟨w.heap.size + 1, 0, none⟩ (.slice pp pm pc)) := hS5.trans (Only.setCell (A := fun z => w.heap.size ≤ z) w5 (p := ⟨w.heap.size + 1, 0, none⟩) (by show w.heap.size ≤ w.heap.size + 1; omega) _)
                      have hl6 : (w5.setCell ⟨w.heap.size + 1, 0, none⟩ (.slice pp pm pc)).heap[L]? = some (.loop (RL .busy none)) := (Below.heap_setCell _ _ _ _ (by show L ≠ w.heap.size + 1; omega)).trans ((hO5.block L (by omega) (hno L (Nat.le_refl _))).trans ((HOr.out.block L (by omega) (fun e => e)).trans Hl3.out))
                      have hfin : Told (DfJ w.heap.size L (w.heap.size + 1) [(w.heap.size, .pointer qu, 25)] (dfP u) (.loop (RL .ready none))) (fun _ _ => False) C2 d2 (k2, v2) Wy (.returned (.bool true)) ((w5.setCell ⟨w.heap.size + 1, 0, none⟩ (.slice pp pm pc)).putObj L (.loop (RL .ready none))) :=
                        ⟨fun k => C2 k ∨ (Wr.heap.size ≤ k ∧ k < w5.heap.size), ((Ho3.out.mono (fun z _ e => e ▸ HV3.out.cL)).trans (HOr.out.mono (fun _ _ e => e.elim))).trans hT.2, ⟨fun z e => .inl e, fun z e => e.imp id (fun h => by have := h.1; omega)⟩, .inl ⟨rfl, by rw [DfJ, List.filter_append, Hdf.out, List.filter_cons, if_pos Hp.out]; exact ⟨_, _, hT.1⟩⟩⟩
                      have Hfin := Lib.hid hfin
                      have Hl6 := Lib.hid hl6
                      clear hfin hl6 hT hVr hno hlt5 hk9 hv9 hkv9 hP5 hm5 hsr hs9 hs5
                      refine wpAnyH_ready (rs := [13]) (by kernel_rfl) (by simp) ?_
                      refine allVal rfl (by kernel_rfl) (execApp hrun rfl (by kernel_rfl) (by kernel_rfl)) hS5 ?_ AllReadyH.nil
                      try simp only [Act.put, List.getElem_toArray, List.getElem_cons_succ, List.getElem_cons_zero, List.setIfInBounds_toArray, List.set_cons_zero, List.set_cons_succ]
                      refine wpAnyH_ready (rs := [14]) (by kernel_rfl) (by simp) ?_
                      refine allSkip (w' := (w5.setCell ⟨w.heap.size + 1, 0, none⟩ (.slice pp pm pc))) rfl (by kernel_rfl) ?_ hS6 ?_ AllReadyH.nil
                      · go_simp
                      try simp only [Act.put, List.getElem_toArray, List.getElem_cons_succ, List.getElem_cons_zero, List.setIfInBounds_toArray, List.set_cons_zero, List.set_cons_succ]
                      refine wpAnyH_done (by kernel_rfl) ?_ _
                      gi_wp2_with fail
                      exact roundPost_normalR HRL.out Hl6.out Hfin.out
          | node yk yv yl yr =>
            obtain ⟨by', ykv, yvv, yl', yr', rfl, hby, hyc, -, hyv, -, -⟩ := hy
            obtain ⟨-, m1, -, -, -, -⟩ := hyc.c6
            obtain ⟨x2, -, hx2⟩ := hyv
            obtain ⟨ay, cy, rfl, -, -, -⟩ := hx2.form
            have Hx2 := Lib.hid hx2
            obtain ⟨x3, -, hx3⟩ := By.on Hv3.out (w' := Wq.drew) (fun _ _ => rfl) (fun _ h => h)
            have Hx3 := Lib.hid hx3
            have m1' : Wq.cell? ⟨by', 1, none⟩ = some (.slice ay yv.length cy) := m1
            clear hyc hx2 hx3 m1
            refine wpAnyH_take (i := 7) (v := .pointer (some ⟨by', 0, none⟩)) rfl (by kernel_rfl) (by kernel_rfl) (by kernel_rfl) (fun _ _ _ h => h) (Or.inl ⟨by rfl, ?_⟩) hHeld ?_
            · intro w' hSw; subst hSw; go_simp
            try simp only [Act.put, List.getElem_toArray, List.getElem_cons_succ, List.getElem_cons_zero, List.setIfInBounds_toArray, List.set_cons_zero, List.set_cons_succ]
            refine wpAnyH_done (by kernel_rfl) ?_ _
            gi_wp2_with fail
            refine wpIn_region_held (S := fun w' => w' = Wq.drew.drew) (by kernel_rfl) (by rintro ⟨a, w, h⟩; exact h) (by kernel_rfl) rfl (fun hHeld => ?_)
            refine wpAnyH_take (i := 0) (v := .pointer (some ⟨by', 0, none⟩)) rfl (by kernel_rfl) (by kernel_rfl) (by kernel_rfl) (fun _ _ _ h => h) (Or.inl ⟨by rfl, ?_⟩) hHeld ?_
            · intro w' hSw; subst hSw; go_simp
            try simp only [Act.put, List.getElem_toArray, List.getElem_cons_succ, List.getElem_cons_zero, List.setIfInBounds_toArray, List.set_cons_zero, List.set_cons_succ]
            refine wpAnyH_take (i := 1) (v := .bool false) rfl (by kernel_rfl) (by kernel_rfl) (by kernel_rfl) (fun _ _ _ h => h) (Or.inl ⟨by rfl, ?_⟩) hHeld ?_
            · intro w' hSw; subst hSw; go_simp
            try simp only [Act.put, List.getElem_toArray, List.getElem_cons_succ, List.getElem_cons_zero, List.setIfInBounds_toArray, List.set_cons_zero, List.set_cons_succ]
            refine wpAnyH_take (i := 2) (v := .bool false) rfl (by kernel_rfl) (by kernel_rfl) (by kernel_rfl) (fun _ _ _ h => h) (Or.inl ⟨by rfl, ?_⟩) hHeld ?_
            · intro w' hSw; subst hSw; go_simp
            try simp only [Act.put, List.getElem_toArray, List.getElem_cons_succ, List.getElem_cons_zero, List.setIfInBounds_toArray, List.set_cons_zero, List.set_cons_succ]
            refine wpAnyH_take (i := 3) (v := .pointer (some ⟨b2, 0, none⟩)) rfl (by kernel_rfl) (by kernel_rfl) (by kernel_rfl) (fun _ _ _ h => h) (Or.inl ⟨by rfl, ?_⟩) hHeld ?_
            · intro w' hSw; subst hSw; go_simp
            try simp only [Act.put, List.getElem_toArray, List.getElem_cons_succ, List.getElem_cons_zero, List.setIfInBounds_toArray, List.set_cons_zero, List.set_cons_succ]
            refine wpAnyH_take (i := 4) (v := .pointer (some ⟨b2, 0, none⟩)) rfl (by kernel_rfl) (by kernel_rfl) (by kernel_rfl) (fun _ _ _ h => h) (Or.inl ⟨by rfl, ?_⟩) hHeld ?_
            · intro w' hSw; subst hSw; go_simp
            try simp only [Act.put, List.getElem_toArray, List.getElem_cons_succ, List.getElem_cons_zero, List.setIfInBounds_toArray, List.set_cons_zero, List.set_cons_succ]
            refine wpAnyH_take (i := 5) (v := .pointer (some ⟨b2, 1, none⟩)) rfl (by kernel_rfl) (by kernel_rfl) (by kernel_rfl) (fun _ _ _ h => h) (Or.inl ⟨by rfl, ?_⟩) hHeld ?_
            · intro w' hSw; subst hSw; go_simp
            try simp only [Act.put, List.getElem_toArray, List.getElem_cons_succ, List.getElem_cons_zero, List.setIfInBounds_toArray, List.set_cons_zero, List.set_cons_succ]
            refine wpAnyH_take (i := 6) (v := .slice av v2.length cv) rfl (by kernel_rfl) (by kernel_rfl) (by kernel_rfl) (fun _ _ _ h => h) (Or.inl ⟨by rfl, ?_⟩) hHeld ?_
            · intro w' hSw; subst hSw; go_simp
            try simp only [Act.put, List.getElem_toArray, List.getElem_cons_succ, List.getElem_cons_zero, List.setIfInBounds_toArray, List.set_cons_zero, List.set_cons_succ]
            refine wpAnyH_take (i := 7) (v := .pointer (some ⟨by', 0, none⟩)) rfl (by kernel_rfl) (by kernel_rfl) (by kernel_rfl) (fun _ _ _ h => h) (Or.inl ⟨by rfl, ?_⟩) hHeld ?_
            · intro w' hSw; subst hSw; go_simp
            try simp only [Act.put, List.getElem_toArray, List.getElem_cons_succ, List.getElem_cons_zero, List.setIfInBounds_toArray, List.set_cons_zero, List.set_cons_succ]
            refine wpAnyH_take (i := 8) (v := .pointer (some ⟨by', 0, none⟩)) rfl (by kernel_rfl) (by kernel_rfl) (by kernel_rfl) (fun _ _ _ h => h) (Or.inl ⟨by rfl, ?_⟩) hHeld ?_
            · intro w' hSw; subst hSw; go_simp
            try simp only [Act.put, List.getElem_toArray, List.getElem_cons_succ, List.getElem_cons_zero, List.setIfInBounds_toArray, List.set_cons_zero, List.set_cons_succ]
            refine wpAnyH_take (i := 9) (v := .pointer (some ⟨by', 1, none⟩)) rfl (by kernel_rfl) (by kernel_rfl) (by kernel_rfl) (fun _ _ _ h => h) (Or.inl ⟨by rfl, ?_⟩) hHeld ?_
            · intro w' hSw; subst hSw; go_simp
            try simp only [Act.put, List.getElem_toArray, List.getElem_cons_succ, List.getElem_cons_zero, List.setIfInBounds_toArray, List.set_cons_zero, List.set_cons_succ]
            refine wpAnyH_take (i := 10) (v := .slice ay yv.length cy) rfl (by kernel_rfl) (by kernel_rfl) (by kernel_rfl) (fun _ _ _ h => h) (Or.inl ⟨by rfl, ?_⟩) hHeld ?_
            · intro w' hSw; subst hSw; go_simp
            try simp only [Act.put, List.getElem_toArray, List.getElem_cons_succ, List.getElem_cons_zero, List.setIfInBounds_toArray, List.set_cons_zero, List.set_cons_succ]
            refine wpAnyH_ready (rs := [11]) (by kernel_rfl) (by simp) ?_
            refine allCall (f := 43) (args := #[.slice av v2.length cv, .slice ay yv.length cy]) rfl (by kernel_rfl) ?_ ?_ AllReadyH.nil
            · kernel_rfl
            · refine bytes_Equal _ _ _ _ _ _ v2 yv Wq.drew.drew (Sl.agree Hx3.out (flat_loc _) (w' := Wq.drew.drew) (fun _ _ _ => rfl)) (Sl.agree Hx2.out (flat_loc _) (w' := Wq.drew.drew) (fun _ _ _ => rfl)) _ ?_
              refine ⟨_, rfl, rfl, ?_⟩
              clear m1'
              try simp only [Act.put, List.getElem_toArray, List.getElem_cons_succ, List.getElem_cons_zero, List.setIfInBounds_toArray, List.set_cons_zero, List.set_cons_succ]
              cases heq : (v2 == yv)
              · have Hp : Hid (dfP u (k2, v2) = true) := Lib.hid (by
                  simp only [dfP, hget]
                  refine decide_eq_true (fun e => ?_)
                  injection e with e
                  rw [e, beq_self_eq_true] at heq
                  cases heq)
                clear hget
                refine wpAnyH_take (i := 12) (v := .bool true) rfl (by kernel_rfl) (by kernel_rfl) (by kernel_rfl) (fun _ _ _ h => h) (Or.inl ⟨by rfl, ?_⟩) hHeld ?_
                · intro w' hSw; subst hSw; go_simp
                try simp only [Act.put, List.getElem_toArray, List.getElem_cons_succ, List.getElem_cons_zero, List.setIfInBounds_toArray, List.set_cons_zero, List.set_cons_succ]
                refine wpAnyH_take (i := 13) (v := .bool true) rfl (by kernel_rfl) (by kernel_rfl) (by kernel_rfl) (fun _ _ _ h => h) (Or.inl ⟨by rfl, ?_⟩) hHeld ?_
                · intro w' hSw; subst hSw; go_simp
                try simp only [Act.put, List.getElem_toArray, List.getElem_cons_succ, List.getElem_cons_zero, List.setIfInBounds_toArray, List.set_cons_zero, List.set_cons_succ]
                refine wpAnyH_done (by kernel_rfl) ?_ _
                clear heq
                gi_wp2_with fail
                have hWr : Wq.drew.drew.drew.heap.size = Wq.heap.size := rfl
                have hky := By.bytes Hk3.out (hi := Wq.heap.size) (fun z hz => by have := Hs9.out; have : z < w.heap.size := hz; omega)
                have hvy := By.bytes Hv3.out (hi := Wq.heap.size) (fun z hz => by have := Hs9.out; have : z < w.heap.size := hz; omega)
                have hobr : w.heap.size + 1 < Wq.heap.size := by have := Hs9.out; omega
                have hb2q : b2 < Wq.heap.size := by have := Hs9.out; have : b2 < w.heap.size := hb2; omega
                have hP0 := HV3.out.prs
                obtain ⟨Wr, eWr⟩ : ∃ Wr, Wr = Wq.drew.drew.drew := ⟨_, rfl⟩
                have hOr : Only (fun _ => False) Wq Wr := by rw [eWr]; exact ((Only.drew Wq).trans (Only.drew _)).trans (Only.drew _)
                have hsr : Wr.heap.size = Wq.heap.size := by rw [eWr]; rfl
                have hhr : Wr.heap = Wq.heap := by rw [eWr]; rfl
                have Hky := Lib.hid (hky.agree (flat_loc _) (w' := Wr) (fun z _ _ => by rw [hhr]))
                have Hvy := Lib.hid (hvy.agree (flat_loc _) (w' := Wr) (fun z _ _ => by rw [hhr]))
                rw [← hsr] at Hky Hvy hobr hb2q
                have cell : ∀ q, Wr.cell? q = Wq.cell? q := fun q => World.cell?_of_block (by rw [hhr])
                rw [← cell] at n0 n1 c9
                have HP0 := Lib.hid (hP0.same (w' := Wr) (fun g _ => by rw [hhr]) (fun g _ => by rw [hhr]))
                have HOr := Lib.hid hOr
                have Hsr := Lib.hid hsr
                have hS0 : Only (fun z => w.heap.size ≤ z) Wr Wr := Only.refl _ _
                have hbS : ∀ w', Only (fun z => w.heap.size ≤ z) Wr w' → w'.cell? ⟨b2, 0, none⟩ = some (.slice ak k2.length ck) ∧ w'.cell? ⟨b2, 1, none⟩ = some (.slice av v2.length cv) := fun w' h => ⟨(World.cell?_of_block (h.block b2 hb2q (by have : b2 < w.heap.size := hb2; omega))).trans n0, (World.cell?_of_block (h.block b2 hb2q (by have : b2 < w.heap.size := hb2; omega))).trans n1⟩
                clear hky hvy hWr hP0 hOr hsr hhr cell c6
                refine wpIn_region_held (S := fun w' => Only (fun z => w.heap.size ≤ z) Wq.drew.drew.drew w') (by kernel_rfl) (by rintro ⟨a, w, h⟩; exact h) (by kernel_rfl) (Only.refl _ _) (fun hHeld => ?_)
                rw [← eWr] at hHeld ⊢
                clear eWr n0 n1
                refine wpAnyH_take (i := 1) (v := .pointer (some ⟨b2, 0, none⟩)) rfl (by kernel_rfl) (by kernel_rfl) (by kernel_rfl) (fun _ _ _ h => h) (Or.inl ⟨by rfl, ?_⟩) hHeld ?_
                · intro w' hSw; go_simp
                try simp only [Act.put, List.getElem_toArray, List.getElem_cons_succ, List.getElem_cons_zero, List.setIfInBounds_toArray, List.set_cons_zero, List.set_cons_succ]
                refine wpAnyH_take (i := 2) (v := .pointer (some ⟨b2, 0, none⟩)) rfl (by kernel_rfl) (by kernel_rfl) (by kernel_rfl) (fun _ _ _ h => h) (Or.inl ⟨by rfl, ?_⟩) hHeld ?_
                · intro w' hSw; go_simp
                try simp only [Act.put, List.getElem_toArray, List.getElem_cons_succ, List.getElem_cons_zero, List.setIfInBounds_toArray, List.set_cons_zero, List.set_cons_succ]
                refine wpAnyH_take (i := 3) (v := .pointer (some ⟨b2, 0, none⟩)) rfl (by kernel_rfl) (by kernel_rfl) (by kernel_rfl) (fun _ _ _ h => h) (Or.inl ⟨by rfl, ?_⟩) hHeld ?_
                · intro w' hSw; go_simp
                try simp only [Act.put, List.getElem_toArray, List.getElem_cons_succ, List.getElem_cons_zero, List.setIfInBounds_toArray, List.set_cons_zero, List.set_cons_succ]
                refine wpAnyH_take (i := 4) (v := .slice ak k2.length ck) rfl (by kernel_rfl) (by kernel_rfl) (by kernel_rfl) (fun _ _ _ h => h) (Or.inl ⟨by rfl, ?_⟩) hHeld ?_
                · intro w' hSw; have kx := (hbS w' hSw).1; go_simp
                try simp only [Act.put, List.getElem_toArray, List.getElem_cons_succ, List.getElem_cons_zero, List.setIfInBounds_toArray, List.set_cons_zero, List.set_cons_succ]
                refine wpAnyH_take (i := 6) (v := .pointer (some ⟨b2, 0, none⟩)) rfl (by kernel_rfl) (by kernel_rfl) (by kernel_rfl) (fun _ _ _ h => h) (Or.inl ⟨by rfl, ?_⟩) hHeld ?_
                · intro w' hSw; go_simp
                try simp only [Act.put, List.getElem_toArray, List.getElem_cons_succ, List.getElem_cons_zero, List.setIfInBounds_toArray, List.set_cons_zero, List.set_cons_succ]
                refine wpAnyH_take (i := 7) (v := .pointer (some ⟨b2, 0, none⟩)) rfl (by kernel_rfl) (by kernel_rfl) (by kernel_rfl) (fun _ _ _ h => h) (Or.inl ⟨by rfl, ?_⟩) hHeld ?_
                · intro w' hSw; go_simp
                try simp only [Act.put, List.getElem_toArray, List.getElem_cons_succ, List.getElem_cons_zero, List.setIfInBounds_toArray, List.set_cons_zero, List.set_cons_succ]
                refine wpAnyH_take (i := 8) (v := .pointer (some ⟨b2, 1, none⟩)) rfl (by kernel_rfl) (by kernel_rfl) (by kernel_rfl) (fun _ _ _ h => h) (Or.inl ⟨by rfl, ?_⟩) hHeld ?_
                · intro w' hSw; go_simp
                try simp only [Act.put, List.getElem_toArray, List.getElem_cons_succ, List.getElem_cons_zero, List.setIfInBounds_toArray, List.set_cons_zero, List.set_cons_succ]
                refine wpAnyH_take (i := 9) (v := .slice av v2.length cv) rfl (by kernel_rfl) (by kernel_rfl) (by kernel_rfl) (fun _ _ _ h => h) (Or.inl ⟨by rfl, ?_⟩) hHeld ?_
                · intro w' hSw; have kx := (hbS w' hSw).2; go_simp
                try simp only [Act.put, List.getElem_toArray, List.getElem_cons_succ, List.getElem_cons_zero, List.setIfInBounds_toArray, List.set_cons_zero, List.set_cons_succ]
                refine wpAnyH_ready (rs := [0, 5]) (by kernel_rfl) (by simp) ?_
                refine allVal (v := .slice po df.length co) (w' := Wr) rfl (by kernel_rfl) ?_ hS0 ?_ ?_
                · go_simp
                · try simp only [Act.put, List.getElem_toArray, List.getElem_cons_succ, List.getElem_cons_zero, List.setIfInBounds_toArray, List.set_cons_zero, List.set_cons_succ]
                  refine wpAnyH_ready (rs := [5]) (by kernel_rfl) (by simp) ?_
                  refine allCall (f := 34) (args := #[.slice ak k2.length ck]) rfl (by kernel_rfl) ?_ ?_ AllReadyH.nil
                  · kernel_rfl
                  · refine Clone_any Wr.heap.size 0 Wr.heap.size k2 _ Wr Hky.out (Nat.le_refl _) (Nat.le_refl _) hln.1 _ (fun w1 k1 hB1 ho1 => ?_)
                    have hS1 : Only (fun z => w.heap.size ≤ z) Wr w1 := Below.only hB1
                    have c91 := (World.cell?_of_block (hB1.block _ hobr)).trans c9
                    obtain ⟨ak1, ck1, rfl, -, -, -⟩ := (OwnB.bytes ho1).form
                    refine ⟨_, rfl, hS1, ?_⟩
                    try simp only [Act.put, List.getElem_toArray, List.getElem_cons_succ, List.getElem_cons_zero, List.setIfInBounds_toArray, List.set_cons_zero, List.set_cons_succ]
                    refine wpAnyH_ready (rs := [10]) (by kernel_rfl) (by simp) ?_
                    refine allCall (f := 34) (args := #[.slice av v2.length cv]) rfl (by kernel_rfl) ?_ ?_ AllReadyH.nil
                    · kernel_rfl
                    · refine Clone_any w1.heap.size 0 Wr.heap.size v2 _ w1 (Hvy.out.below (flat_loc _) hB1 (Nat.le_refl _)) (Nat.le_refl _) hB1.size hln.2 _ (fun w2 v1 hB2 ho2 => ?_)
                      have hB02 := hB1.trans (hB2.mono hB1.size)
                      have hS2 : Only (fun z => w.heap.size ≤ z) Wr w2 := Below.only hB02
                      have c92 := (World.cell?_of_block (hB02.block _ hobr)).trans c9
                      obtain ⟨av1, cv1, rfl, -, -, -⟩ := (OwnB.bytes ho2).form
                      refine ⟨_, rfl, hS2, ?_⟩
                      have hHeld := hS2
                      try simp only [Act.put, List.getElem_toArray, List.getElem_cons_succ, List.getElem_cons_zero, List.setIfInBounds_toArray, List.set_cons_zero, List.set_cons_succ]
                      refine wpAnyH_take (i := 11) (v := .agg #[.slice ak1 k2.length ck1, .slice av1 v2.length cv1]) rfl (by kernel_rfl) (by kernel_rfl) (by kernel_rfl) (fun _ _ _ h => h) (Or.inl ⟨by rfl, ?_⟩) hHeld ?_
                      · intro w' hSw; go_simp
                      try simp only [Act.put, List.getElem_toArray, List.getElem_cons_succ, List.getElem_cons_zero, List.setIfInBounds_toArray, List.set_cons_zero, List.set_cons_succ]
                      refine wpAnyH_ready (rs := [12]) (by kernel_rfl) (by simp) ?_
                      have hS3 : Only (fun z => w.heap.size ≤ z) Wr (w2.alloc (.cells #[.slice ak1 k2.length ck1, .slice av1 v2.length cv1] 43)) := hS2.trans (Only.alloc w2 _)
                      have hB03 : Below Wr.heap.size Wr (w2.alloc (.cells #[.slice ak1 k2.length ck1, .slice av1 v2.length cv1] 43)) := hB02.trans (((Below.refl _ _).alloc (Nat.le_refl _) _).mono hB02.size)
                      have c93 := (World.cell?_of_block (hB03.block _ hobr)).trans c9
                      refine allVal rfl (by kernel_rfl) (execBuild (run_bsP ak1 av1 k2.length v2.length ck1 cv1 w2) rfl (by kernel_rfl)) hS3 ?_ AllReadyH.nil
                      try simp only [Act.put, List.getElem_toArray, List.getElem_cons_succ, List.getElem_cons_zero, List.setIfInBounds_toArray, List.set_cons_zero, List.set_cons_succ]
                      have hk9 := Own.kept ho1 hB2
                      have hv9 := OwnB.mono ho2 hB1.size
                      have hkv9 : ∀ g, Value.ownBlock (.slice ak1 k2.length ck1) = some g → Value.ownBlock (.slice av1 v2.length cv1) ≠ some g := fun g e1 e2 => by
                        have h1 := (ho1.lt g e1).2
                        have h2 := (ho2.lt g e2).1
                        omega
                      have hsr := Hsr.out
                      have hs9 := Hs9.out
                      have hLr : L + 1 ≤ Wr.heap.size := by omega
                      have hadd := HP0.out.add (x := (k2, v2)) (w2 := w2.alloc (.cells #[.slice ak1 k2.length ck1, .slice av1 v2.length cv1] 43)) hLr hB02 hk9 hv9 hkv9 rfl (by omega) (n := w2.heap.size) rfl
                      obtain ⟨pp, pm, pc, w5, hrun, hO5, hs5, hP5, hm5⟩ := hadd
                      have hlt5 := HP0.out.lt.1
                      have hno : ∀ z, z ≤ L → ¬ Value.ownBlock (.slice po df.length co) = some z := fun z hz e => by have := (hlt5 z e).1; omega
                      have hVr := HV3.out.rec2 (W3 := Wr) (HOr.out.mono (fun _ _ e => e.elim)) ((HOr.out.block L (by omega) (fun e => e)).trans HV3.out.rcd)
                      have hT := hVr.told (o2 := .loop (RL .ready none)) (by omega) hO5 hP5 hm5 (blks_add hk9 hv9 ps)
                      have c95 := (World.cell?_of_block (hO5.block _ hobr (hno (w.heap.size + 1) (by omega)))).trans c9
                      have f95 : w5.frozen? ⟨w.heap.size + 1, 0, none⟩ = false := (hO5.blk hVr.out (hno (w.heap.size + 1) (by omega))).free 0
                      have hS5 : Only (fun z => w.heap.size ≤ z) Wr w5 := hO5.mono (fun z _ e => by have := (hlt5 z e).1; omega)
                      have hS6 : Only (fun z => w.heap.size ≤ z) Wr (w5.setCell ⟨w.heap.size + 1, 0, none⟩ (.slice pp pm pc)) := hS5.trans (Only.setCell (A := fun z => w.heap.size ≤ z) w5 (p := ⟨w.heap.size + 1, 0, none⟩) (by show w.heap.size ≤ w.heap.size + 1; omega) _)
                      have hl6 : (w5.setCell ⟨w.heap.size + 1, 0, none⟩ (.slice pp pm pc)).heap[L]? = some (.loop (RL .busy none)) := (Below.heap_setCell _ _ _ _ (by show L ≠ w.heap.size + 1; omega)).trans ((hO5.block L (by omega) (hno L (Nat.le_refl _))).trans ((HOr.out.block L (by omega) (fun e => e)).trans Hl3.out))
                      have hfin : Told (DfJ w.heap.size L (w.heap.size + 1) [(w.heap.size, .pointer qu, 25)] (dfP u) (.loop (RL .ready none))) (fun _ _ => False) C2 d2 (k2, v2) Wy (.returned (.bool true)) ((w5.setCell ⟨w.heap.size + 1, 0, none⟩ (.slice pp pm pc)).putObj L (.loop (RL .ready none))) :=
                        ⟨fun k => C2 k ∨ (Wr.heap.size ≤ k ∧ k < w5.heap.size), ((Ho3.out.mono (fun z _ e => e ▸ HV3.out.cL)).trans (HOr.out.mono (fun _ _ e => e.elim))).trans hT.2, ⟨fun z e => .inl e, fun z e => e.imp id (fun h => by have := h.1; omega)⟩, .inl ⟨rfl, by rw [DfJ, List.filter_append, Hdf.out, List.filter_cons, if_pos Hp.out]; exact ⟨_, _, hT.1⟩⟩⟩
                      have Hfin := Lib.hid hfin
                      have Hl6 := Lib.hid hl6
                      clear hfin hl6 hT hVr hno hlt5 hk9 hv9 hkv9 hP5 hm5 hsr hs9 hs5
                      refine wpAnyH_ready (rs := [13]) (by kernel_rfl) (by simp) ?_
                      refine allVal rfl (by kernel_rfl) (execApp hrun rfl (by kernel_rfl) (by kernel_rfl)) hS5 ?_ AllReadyH.nil
                      try simp only [Act.put, List.getElem_toArray, List.getElem_cons_succ, List.getElem_cons_zero, List.setIfInBounds_toArray, List.set_cons_zero, List.set_cons_succ]
                      refine wpAnyH_ready (rs := [14]) (by kernel_rfl) (by simp) ?_
                      refine allSkip (w' := (w5.setCell ⟨w.heap.size + 1, 0, none⟩ (.slice pp pm pc))) rfl (by kernel_rfl) ?_ hS6 ?_ AllReadyH.nil
                      · go_simp
                      try simp only [Act.put, List.getElem_toArray, List.getElem_cons_succ, List.getElem_cons_zero, List.setIfInBounds_toArray, List.set_cons_zero, List.set_cons_succ]
                      refine wpAnyH_done (by kernel_rfl) ?_ _
                      gi_wp2_with fail
                      exact roundPost_normalR HRL.out Hl6.out Hfin.out
                · refine allCall (f := 34) (args := #[.slice ak k2.length ck]) rfl (by kernel_rfl) ?_ ?_ AllReadyH.nil
                  · kernel_rfl
                  · refine Clone_any Wr.heap.size 0 Wr.heap.size k2 _ Wr Hky.out (Nat.le_refl _) (Nat.le_refl _) hln.1 _ (fun w1 k1 hB1 ho1 => ?_)
                    have hS1 : Only (fun z => w.heap.size ≤ z) Wr w1 := Below.only hB1
                    have c91 := (World.cell?_of_block (hB1.block _ hobr)).trans c9
                    obtain ⟨ak1, ck1, rfl, -, -, -⟩ := (OwnB.bytes ho1).form
                    refine ⟨_, rfl, hS1, ?_⟩
                    try simp only [Act.put, List.getElem_toArray, List.getElem_cons_succ, List.getElem_cons_zero, List.setIfInBounds_toArray, List.set_cons_zero, List.set_cons_succ]
                    refine wpAnyH_ready (rs := [0, 10]) (by kernel_rfl) (by simp) ?_
                    refine allVal (v := .slice po df.length co) (w' := w1) rfl (by kernel_rfl) ?_ hS1 ?_ ?_
                    · go_simp
                    · try simp only [Act.put, List.getElem_toArray, List.getElem_cons_succ, List.getElem_cons_zero, List.setIfInBounds_toArray, List.set_cons_zero, List.set_cons_succ]
                      refine wpAnyH_ready (rs := [10]) (by kernel_rfl) (by simp) ?_
                      refine allCall (f := 34) (args := #[.slice av v2.length cv]) rfl (by kernel_rfl) ?_ ?_ AllReadyH.nil
                      · kernel_rfl
                      · refine Clone_any w1.heap.size 0 Wr.heap.size v2 _ w1 (Hvy.out.below (flat_loc _) hB1 (Nat.le_refl _)) (Nat.le_refl _) hB1.size hln.2 _ (fun w2 v1 hB2 ho2 => ?_)
                        have hB02 := hB1.trans (hB2.mono hB1.size)
                        have hS2 : Only (fun z => w.heap.size ≤ z) Wr w2 := Below.only hB02
                        have c92 := (World.cell?_of_block (hB02.block _ hobr)).trans c9
                        obtain ⟨av1, cv1, rfl, -, -, -⟩ := (OwnB.bytes ho2).form
                        refine ⟨_, rfl, hS2, ?_⟩
                        have hHeld := hS2
                        try simp only [Act.put, List.getElem_toArray, List.getElem_cons_succ, List.getElem_cons_zero, List.setIfInBounds_toArray, List.set_cons_zero, List.set_cons_succ]
                        refine wpAnyH_take (i := 11) (v := .agg #[.slice ak1 k2.length ck1, .slice av1 v2.length cv1]) rfl (by kernel_rfl) (by kernel_rfl) (by kernel_rfl) (fun _ _ _ h => h) (Or.inl ⟨by rfl, ?_⟩) hHeld ?_
                        · intro w' hSw; go_simp
                        try simp only [Act.put, List.getElem_toArray, List.getElem_cons_succ, List.getElem_cons_zero, List.setIfInBounds_toArray, List.set_cons_zero, List.set_cons_succ]
                        refine wpAnyH_ready (rs := [12]) (by kernel_rfl) (by simp) ?_
                        have hS3 : Only (fun z => w.heap.size ≤ z) Wr (w2.alloc (.cells #[.slice ak1 k2.length ck1, .slice av1 v2.length cv1] 43)) := hS2.trans (Only.alloc w2 _)
                        have hB03 : Below Wr.heap.size Wr (w2.alloc (.cells #[.slice ak1 k2.length ck1, .slice av1 v2.length cv1] 43)) := hB02.trans (((Below.refl _ _).alloc (Nat.le_refl _) _).mono hB02.size)
                        have c93 := (World.cell?_of_block (hB03.block _ hobr)).trans c9
                        refine allVal rfl (by kernel_rfl) (execBuild (run_bsP ak1 av1 k2.length v2.length ck1 cv1 w2) rfl (by kernel_rfl)) hS3 ?_ AllReadyH.nil
                        try simp only [Act.put, List.getElem_toArray, List.getElem_cons_succ, List.getElem_cons_zero, List.setIfInBounds_toArray, List.set_cons_zero, List.set_cons_succ]
                        have hk9 := Own.kept ho1 hB2
                        have hv9 := OwnB.mono ho2 hB1.size
                        have hkv9 : ∀ g, Value.ownBlock (.slice ak1 k2.length ck1) = some g → Value.ownBlock (.slice av1 v2.length cv1) ≠ some g := fun g e1 e2 => by
                          have h1 := (ho1.lt g e1).2
                          have h2 := (ho2.lt g e2).1
                          omega
                        have hsr := Hsr.out
                        have hs9 := Hs9.out
                        have hLr : L + 1 ≤ Wr.heap.size := by omega
                        have hadd := HP0.out.add (x := (k2, v2)) (w2 := w2.alloc (.cells #[.slice ak1 k2.length ck1, .slice av1 v2.length cv1] 43)) hLr hB02 hk9 hv9 hkv9 rfl (by omega) (n := w2.heap.size) rfl
                        obtain ⟨pp, pm, pc, w5, hrun, hO5, hs5, hP5, hm5⟩ := hadd
                        have hlt5 := HP0.out.lt.1
                        have hno : ∀ z, z ≤ L → ¬ Value.ownBlock (.slice po df.length co) = some z := fun z hz e => by have := (hlt5 z e).1; omega
                        have hVr := HV3.out.rec2 (W3 := Wr) (HOr.out.mono (fun _ _ e => e.elim)) ((HOr.out.block L (by omega) (fun e => e)).trans HV3.out.rcd)
                        have hT := hVr.told (o2 := .loop (RL .ready none)) (by omega) hO5 hP5 hm5 (blks_add hk9 hv9 ps)
                        have c95 := (World.cell?_of_block (hO5.block _ hobr (hno (w.heap.size + 1) (by omega)))).trans c9
                        have f95 : w5.frozen? ⟨w.heap.size + 1, 0, none⟩ = false := (hO5.blk hVr.out (hno (w.heap.size + 1) (by omega))).free 0
                        have hS5 : Only (fun z => w.heap.size ≤ z) Wr w5 := hO5.mono (fun z _ e => by have := (hlt5 z e).1; omega)
                        have hS6 : Only (fun z => w.heap.size ≤ z) Wr (w5.setCell ⟨w.heap.size + 1, 0, none⟩ (.slice pp pm pc)) := hS5.trans (Only.setCell (A := fun z => w.heap.size ≤ z) w5 (p := ⟨w.heap.size + 1, 0, none⟩) (by show w.heap.size ≤ w.heap.size + 1; omega) _)
                        have hl6 : (w5.setCell ⟨w.heap.size + 1, 0, none⟩ (.slice pp pm pc)).heap[L]? = some (.loop (RL .busy none)) := (Below.heap_setCell _ _ _ _ (by show L ≠ w.heap.size + 1; omega)).trans ((hO5.block L (by omega) (hno L (Nat.le_refl _))).trans ((HOr.out.block L (by omega) (fun e => e)).trans Hl3.out))
                        have hfin : Told (DfJ w.heap.size L (w.heap.size + 1) [(w.heap.size, .pointer qu, 25)] (dfP u) (.loop (RL .ready none))) (fun _ _ => False) C2 d2 (k2, v2) Wy (.returned (.bool true)) ((w5.setCell ⟨w.heap.size + 1, 0, none⟩ (.slice pp pm pc)).putObj L (.loop (RL .ready none))) :=
                          ⟨fun k => C2 k ∨ (Wr.heap.size ≤ k ∧ k < w5.heap.size), ((Ho3.out.mono (fun z _ e => e ▸ HV3.out.cL)).trans (HOr.out.mono (fun _ _ e => e.elim))).trans hT.2, ⟨fun z e => .inl e, fun z e => e.imp id (fun h => by have := h.1; omega)⟩, .inl ⟨rfl, by rw [DfJ, List.filter_append, Hdf.out, List.filter_cons, if_pos Hp.out]; exact ⟨_, _, hT.1⟩⟩⟩
                        have Hfin := Lib.hid hfin
                        have Hl6 := Lib.hid hl6
                        clear hfin hl6 hT hVr hno hlt5 hk9 hv9 hkv9 hP5 hm5 hsr hs9 hs5
                        refine wpAnyH_ready (rs := [13]) (by kernel_rfl) (by simp) ?_
                        refine allVal rfl (by kernel_rfl) (execApp hrun rfl (by kernel_rfl) (by kernel_rfl)) hS5 ?_ AllReadyH.nil
                        try simp only [Act.put, List.getElem_toArray, List.getElem_cons_succ, List.getElem_cons_zero, List.setIfInBounds_toArray, List.set_cons_zero, List.set_cons_succ]
                        refine wpAnyH_ready (rs := [14]) (by kernel_rfl) (by simp) ?_
                        refine allSkip (w' := (w5.setCell ⟨w.heap.size + 1, 0, none⟩ (.slice pp pm pc))) rfl (by kernel_rfl) ?_ hS6 ?_ AllReadyH.nil
                        · go_simp
                        try simp only [Act.put, List.getElem_toArray, List.getElem_cons_succ, List.getElem_cons_zero, List.setIfInBounds_toArray, List.set_cons_zero, List.set_cons_succ]
                        refine wpAnyH_done (by kernel_rfl) ?_ _
                        gi_wp2_with fail
                        exact roundPost_normalR HRL.out Hl6.out Hfin.out
                    · refine allCall (f := 34) (args := #[.slice av v2.length cv]) rfl (by kernel_rfl) ?_ ?_ AllReadyH.nil
                      · kernel_rfl
                      · refine Clone_any w1.heap.size 0 Wr.heap.size v2 _ w1 (Hvy.out.below (flat_loc _) hB1 (Nat.le_refl _)) (Nat.le_refl _) hB1.size hln.2 _ (fun w2 v1 hB2 ho2 => ?_)
                        have hB02 := hB1.trans (hB2.mono hB1.size)
                        have hS2 : Only (fun z => w.heap.size ≤ z) Wr w2 := Below.only hB02
                        have c92 := (World.cell?_of_block (hB02.block _ hobr)).trans c9
                        obtain ⟨av1, cv1, rfl, -, -, -⟩ := (OwnB.bytes ho2).form
                        refine ⟨_, rfl, hS2, ?_⟩
                        have hHeld := hS2
                        try simp only [Act.put, List.getElem_toArray, List.getElem_cons_succ, List.getElem_cons_zero, List.setIfInBounds_toArray, List.set_cons_zero, List.set_cons_succ]
                        refine wpAnyH_take (i := 11) (v := .agg #[.slice ak1 k2.length ck1, .slice av1 v2.length cv1]) rfl (by kernel_rfl) (by kernel_rfl) (by kernel_rfl) (fun _ _ _ h => h) (Or.inl ⟨by rfl, ?_⟩) hHeld ?_
                        · intro w' hSw; go_simp
                        try simp only [Act.put, List.getElem_toArray, List.getElem_cons_succ, List.getElem_cons_zero, List.setIfInBounds_toArray, List.set_cons_zero, List.set_cons_succ]
                        refine wpAnyH_ready (rs := [0, 12]) (by kernel_rfl) (by simp) ?_
                        refine allVal (v := .slice po df.length co) (w' := w2) rfl (by kernel_rfl) ?_ hS2 ?_ ?_
                        · go_simp
                        · try simp only [Act.put, List.getElem_toArray, List.getElem_cons_succ, List.getElem_cons_zero, List.setIfInBounds_toArray, List.set_cons_zero, List.set_cons_succ]
                          refine wpAnyH_ready (rs := [12]) (by kernel_rfl) (by simp) ?_
                          have hS3 : Only (fun z => w.heap.size ≤ z) Wr (w2.alloc (.cells #[.slice ak1 k2.length ck1, .slice av1 v2.length cv1] 43)) := hS2.trans (Only.alloc w2 _)
                          have hB03 : Below Wr.heap.size Wr (w2.alloc (.cells #[.slice ak1 k2.length ck1, .slice av1 v2.length cv1] 43)) := hB02.trans (((Below.refl _ _).alloc (Nat.le_refl _) _).mono hB02.size)
                          have c93 := (World.cell?_of_block (hB03.block _ hobr)).trans c9
                          refine allVal rfl (by kernel_rfl) (execBuild (run_bsP ak1 av1 k2.length v2.length ck1 cv1 w2) rfl (by kernel_rfl)) hS3 ?_ AllReadyH.nil
                          try simp only [Act.put, List.getElem_toArray, List.getElem_cons_succ, List.getElem_cons_zero, List.setIfInBounds_toArray, List.set_cons_zero, List.set_cons_succ]
                          have hk9 := Own.kept ho1 hB2
                          have hv9 := OwnB.mono ho2 hB1.size
                          have hkv9 : ∀ g, Value.ownBlock (.slice ak1 k2.length ck1) = some g → Value.ownBlock (.slice av1 v2.length cv1) ≠ some g := fun g e1 e2 => by
                            have h1 := (ho1.lt g e1).2
                            have h2 := (ho2.lt g e2).1
                            omega
                          have hsr := Hsr.out
                          have hs9 := Hs9.out
                          have hLr : L + 1 ≤ Wr.heap.size := by omega
                          have hadd := HP0.out.add (x := (k2, v2)) (w2 := w2.alloc (.cells #[.slice ak1 k2.length ck1, .slice av1 v2.length cv1] 43)) hLr hB02 hk9 hv9 hkv9 rfl (by omega) (n := w2.heap.size) rfl
                          obtain ⟨pp, pm, pc, w5, hrun, hO5, hs5, hP5, hm5⟩ := hadd
                          have hlt5 := HP0.out.lt.1
                          have hno : ∀ z, z ≤ L → ¬ Value.ownBlock (.slice po df.length co) = some z := fun z hz e => by have := (hlt5 z e).1; omega
                          have hVr := HV3.out.rec2 (W3 := Wr) (HOr.out.mono (fun _ _ e => e.elim)) ((HOr.out.block L (by omega) (fun e => e)).trans HV3.out.rcd)
                          have hT := hVr.told (o2 := .loop (RL .ready none)) (by omega) hO5 hP5 hm5 (blks_add hk9 hv9 ps)
                          have c95 := (World.cell?_of_block (hO5.block _ hobr (hno (w.heap.size + 1) (by omega)))).trans c9
                          have f95 : w5.frozen? ⟨w.heap.size + 1, 0, none⟩ = false := (hO5.blk hVr.out (hno (w.heap.size + 1) (by omega))).free 0
                          have hS5 : Only (fun z => w.heap.size ≤ z) Wr w5 := hO5.mono (fun z _ e => by have := (hlt5 z e).1; omega)
                          have hS6 : Only (fun z => w.heap.size ≤ z) Wr (w5.setCell ⟨w.heap.size + 1, 0, none⟩ (.slice pp pm pc)) := hS5.trans (Only.setCell (A := fun z => w.heap.size ≤ z) w5 (p := ⟨w.heap.size + 1, 0, none⟩) (by show w.heap.size ≤ w.heap.size + 1; omega) _)
                          have hl6 : (w5.setCell ⟨w.heap.size + 1, 0, none⟩ (.slice pp pm pc)).heap[L]? = some (.loop (RL .busy none)) := (Below.heap_setCell _ _ _ _ (by show L ≠ w.heap.size + 1; omega)).trans ((hO5.block L (by omega) (hno L (Nat.le_refl _))).trans ((HOr.out.block L (by omega) (fun e => e)).trans Hl3.out))
                          have hfin : Told (DfJ w.heap.size L (w.heap.size + 1) [(w.heap.size, .pointer qu, 25)] (dfP u) (.loop (RL .ready none))) (fun _ _ => False) C2 d2 (k2, v2) Wy (.returned (.bool true)) ((w5.setCell ⟨w.heap.size + 1, 0, none⟩ (.slice pp pm pc)).putObj L (.loop (RL .ready none))) :=
                            ⟨fun k => C2 k ∨ (Wr.heap.size ≤ k ∧ k < w5.heap.size), ((Ho3.out.mono (fun z _ e => e ▸ HV3.out.cL)).trans (HOr.out.mono (fun _ _ e => e.elim))).trans hT.2, ⟨fun z e => .inl e, fun z e => e.imp id (fun h => by have := h.1; omega)⟩, .inl ⟨rfl, by rw [DfJ, List.filter_append, Hdf.out, List.filter_cons, if_pos Hp.out]; exact ⟨_, _, hT.1⟩⟩⟩
                          have Hfin := Lib.hid hfin
                          have Hl6 := Lib.hid hl6
                          clear hfin hl6 hT hVr hno hlt5 hk9 hv9 hkv9 hP5 hm5 hsr hs9 hs5
                          refine wpAnyH_ready (rs := [13]) (by kernel_rfl) (by simp) ?_
                          refine allVal rfl (by kernel_rfl) (execApp hrun rfl (by kernel_rfl) (by kernel_rfl)) hS5 ?_ AllReadyH.nil
                          try simp only [Act.put, List.getElem_toArray, List.getElem_cons_succ, List.getElem_cons_zero, List.setIfInBounds_toArray, List.set_cons_zero, List.set_cons_succ]
                          refine wpAnyH_ready (rs := [14]) (by kernel_rfl) (by simp) ?_
                          refine allSkip (w' := (w5.setCell ⟨w.heap.size + 1, 0, none⟩ (.slice pp pm pc))) rfl (by kernel_rfl) ?_ hS6 ?_ AllReadyH.nil
                          · go_simp
                          try simp only [Act.put, List.getElem_toArray, List.getElem_cons_succ, List.getElem_cons_zero, List.setIfInBounds_toArray, List.set_cons_zero, List.set_cons_succ]
                          refine wpAnyH_done (by kernel_rfl) ?_ _
                          gi_wp2_with fail
                          exact roundPost_normalR HRL.out Hl6.out Hfin.out
                        · have hS3 : Only (fun z => w.heap.size ≤ z) Wr (w2.alloc (.cells #[.slice ak1 k2.length ck1, .slice av1 v2.length cv1] 43)) := hS2.trans (Only.alloc w2 _)
                          have hB03 : Below Wr.heap.size Wr (w2.alloc (.cells #[.slice ak1 k2.length ck1, .slice av1 v2.length cv1] 43)) := hB02.trans (((Below.refl _ _).alloc (Nat.le_refl _) _).mono hB02.size)
                          have c93 := (World.cell?_of_block (hB03.block _ hobr)).trans c9
                          refine allVal rfl (by kernel_rfl) (execBuild (run_bsP ak1 av1 k2.length v2.length ck1 cv1 w2) rfl (by kernel_rfl)) hS3 ?_ AllReadyH.nil
                          try simp only [Act.put, List.getElem_toArray, List.getElem_cons_succ, List.getElem_cons_zero, List.setIfInBounds_toArray, List.set_cons_zero, List.set_cons_succ]
                          refine wpAnyH_ready (rs := [0]) (by kernel_rfl) (by simp) ?_
                          refine allVal (v := .slice po df.length co) (w' := w2.alloc (.cells #[.slice ak1 k2.length ck1, .slice av1 v2.length cv1] 43)) rfl (by kernel_rfl) ?_ hS3 ?_ AllReadyH.nil
                          · go_simp
                          try simp only [Act.put, List.getElem_toArray, List.getElem_cons_succ, List.getElem_cons_zero, List.setIfInBounds_toArray, List.set_cons_zero, List.set_cons_succ]
                          have hk9 := Own.kept ho1 hB2
                          have hv9 := OwnB.mono ho2 hB1.size
                          have hkv9 : ∀ g, Value.ownBlock (.slice ak1 k2.length ck1) = some g → Value.ownBlock (.slice av1 v2.length cv1) ≠ some g := fun g e1 e2 => by
                            have h1 := (ho1.lt g e1).2
                            have h2 := (ho2.lt g e2).1
                            omega
                          have hsr := Hsr.out
                          have hs9 := Hs9.out
                          have hLr : L + 1 ≤ Wr.heap.size := by omega
                          have hadd := HP0.out.add (x := (k2, v2)) (w2 := w2.alloc (.cells #[.slice ak1 k2.length ck1, .slice av1 v2.length cv1] 43)) hLr hB02 hk9 hv9 hkv9 rfl (by omega) (n := w2.heap.size) rfl
                          obtain ⟨pp, pm, pc, w5, hrun, hO5, hs5, hP5, hm5⟩ := hadd
                          have hlt5 := HP0.out.lt.1
                          have hno : ∀ z, z ≤ L → ¬ Value.ownBlock (.slice po df.length co) = some z := fun z hz e => by have := (hlt5 z e).1; omega
                          have hVr := HV3.out.rec2 (W3 := Wr) (HOr.out.mono (fun _ _ e => e.elim)) ((HOr.out.block L (by omega) (fun e => e)).trans HV3.out.rcd)
                          have hT := hVr.told (o2 := .loop (RL .ready none)) (by omega) hO5 hP5 hm5 (blks_add hk9 hv9 ps)
                          have c95 := (World.cell?_of_block (hO5.block _ hobr (hno (w.heap.size + 1) (by omega)))).trans c9
                          have f95 : w5.frozen? ⟨w.heap.size + 1, 0, none⟩ = false := (hO5.blk hVr.out (hno (w.heap.size + 1) (by omega))).free 0
                          have hS5 : Only (fun z => w.heap.size ≤ z) Wr w5 := hO5.mono (fun z _ e => by have := (hlt5 z e).1; omega)
                          have hS6 : Only (fun z => w.heap.size ≤ z) Wr (w5.setCell ⟨w.heap.size + 1, 0, none⟩ (.slice pp pm pc)) := hS5.trans (Only.setCell (A := fun z => w.heap.size ≤ z) w5 (p := ⟨w.heap.size + 1, 0, none⟩) (by show w.heap.size ≤ w.heap.size + 1; omega) _)
                          have hl6 : (w5.setCell ⟨w.heap.size + 1, 0, none⟩ (.slice pp pm pc)).heap[L]? = some (.loop (RL .busy none)) := (Below.heap_setCell _ _ _ _ (by show L ≠ w.heap.size + 1; omega)).trans ((hO5.block L (by omega) (hno L (Nat.le_refl _))).trans ((HOr.out.block L (by omega) (fun e => e)).trans Hl3.out))
                          have hfin : Told (DfJ w.heap.size L (w.heap.size + 1) [(w.heap.size, .pointer qu, 25)] (dfP u) (.loop (RL .ready none))) (fun _ _ => False) C2 d2 (k2, v2) Wy (.returned (.bool true)) ((w5.setCell ⟨w.heap.size + 1, 0, none⟩ (.slice pp pm pc)).putObj L (.loop (RL .ready none))) :=
                            ⟨fun k => C2 k ∨ (Wr.heap.size ≤ k ∧ k < w5.heap.size), ((Ho3.out.mono (fun z _ e => e ▸ HV3.out.cL)).trans (HOr.out.mono (fun _ _ e => e.elim))).trans hT.2, ⟨fun z e => .inl e, fun z e => e.imp id (fun h => by have := h.1; omega)⟩, .inl ⟨rfl, by rw [DfJ, List.filter_append, Hdf.out, List.filter_cons, if_pos Hp.out]; exact ⟨_, _, hT.1⟩⟩⟩
                          have Hfin := Lib.hid hfin
                          have Hl6 := Lib.hid hl6
                          clear hfin hl6 hT hVr hno hlt5 hk9 hv9 hkv9 hP5 hm5 hsr hs9 hs5
                          refine wpAnyH_ready (rs := [13]) (by kernel_rfl) (by simp) ?_
                          refine allVal rfl (by kernel_rfl) (execApp hrun rfl (by kernel_rfl) (by kernel_rfl)) hS5 ?_ AllReadyH.nil
                          try simp only [Act.put, List.getElem_toArray, List.getElem_cons_succ, List.getElem_cons_zero, List.setIfInBounds_toArray, List.set_cons_zero, List.set_cons_succ]
                          refine wpAnyH_ready (rs := [14]) (by kernel_rfl) (by simp) ?_
                          refine allSkip (w' := (w5.setCell ⟨w.heap.size + 1, 0, none⟩ (.slice pp pm pc))) rfl (by kernel_rfl) ?_ hS6 ?_ AllReadyH.nil
                          · go_simp
                          try simp only [Act.put, List.getElem_toArray, List.getElem_cons_succ, List.getElem_cons_zero, List.setIfInBounds_toArray, List.set_cons_zero, List.set_cons_succ]
                          refine wpAnyH_done (by kernel_rfl) ?_ _
                          gi_wp2_with fail
                          exact roundPost_normalR HRL.out Hl6.out Hfin.out
              · have Hp : Hid (dfP u (k2, v2) = false) := Lib.hid (by
                  simp only [dfP, hget]
                  refine decide_eq_false (fun e => e ?_)
                  rw [eq_of_beq heq])
                clear hget
                refine wpAnyH_take (i := 12) (v := .bool false) rfl (by kernel_rfl) (by kernel_rfl) (by kernel_rfl) (fun _ _ _ h => h) (Or.inl ⟨by rfl, ?_⟩) hHeld ?_
                · intro w' hSw; subst hSw; go_simp
                try simp only [Act.put, List.getElem_toArray, List.getElem_cons_succ, List.getElem_cons_zero, List.setIfInBounds_toArray, List.set_cons_zero, List.set_cons_succ]
                refine wpAnyH_take (i := 13) (v := .bool false) rfl (by kernel_rfl) (by kernel_rfl) (by kernel_rfl) (fun _ _ _ h => h) (Or.inl ⟨by rfl, ?_⟩) hHeld ?_
                · intro w' hSw; subst hSw; go_simp
                try simp only [Act.put, List.getElem_toArray, List.getElem_cons_succ, List.getElem_cons_zero, List.setIfInBounds_toArray, List.set_cons_zero, List.set_cons_succ]
                refine wpAnyH_done (by kernel_rfl) ?_ _
                clear heq
                have hLq : L < Wq.drew.drew.heap.size := by show L < Wq.heap.size; rw [Hs9.out]; exact hLy
                have h9 : Only (· = L) Wq (Wq.drew.drew.putObj L (.loop (RL .ready none))) := Only.trans (b := Wq.drew.drew) ⟨rfl, rfl, rfl, Nat.le_refl _, fun _ _ _ => rfl⟩ (Only.putObj (A := (· = L)) _ (b := L) rfl _)
                have hfin : Told (DfJ w.heap.size L (w.heap.size + 1) [(w.heap.size, .pointer qu, 25)] (dfP u) (.loop (RL .ready none))) (fun _ _ => False) C2 d2 (k2, v2) Wy (.returned (.bool true)) (Wq.drew.drew.putObj L (.loop (RL .ready none))) :=
                  ⟨C2, (Ho3.out.trans h9).mono (fun k _ e => e ▸ HV3.out.cL), Up.refl _ _, .inl ⟨rfl, by rw [DfJ, List.filter_append, Hdf.out, List.filter_cons, if_neg (by rw [Hp.out]; decide), List.filter_nil, List.append_nil]; exact ⟨_, _, HV3.out.rec2 h9 (World.putObj_heap_same hLq)⟩⟩⟩
                have Hfin := Lib.hid hfin
                clear hfin h9 hLq
                gi_wp2_with fail
                exact roundPost_normalR HRL.out Hl3.out Hfin.out
  case hend =>
    rintro e W6 ⟨⟨v6, rfl⟩, C6, ho6, hup6, hx6⟩
    have hD6 : W6.heap[We.heap.size]? = some (.deferred (some [])) := (ho6.block We.heap.size (by omega) (by rintro (e | e | e) <;> omega)).trans hlD
    have hO06 : Only (fun k => w.heap.size ≤ k) w W6 := (Below.onlyGe hBw5).trans (ho6.mono (fun k hk e => by rcases e with e | e | e <;> omega))
    rcases hx6 with hj | hz
    · obtain ⟨vo, ps, hV⟩ := hj
      have heq : (t.from []).filter (dfP u) = ([] ++ t.from []).filter (dfP u) := by rw [List.nil_append]
      refine ⟨⟨v6, rfl⟩, .ready, none, by simp, hV.rcd, ?_⟩
      show Exit.inBlock 0 _ Exit.normal _ (W6.putObj L (.loop (RL .exhausted none)))
      have hL6 := (hV.cl L hV.cL).2
      have h7 : Only (· = L) W6 (W6.putObj L (.loop (RL .exhausted none))) := Only.putObj (A := (· = L)) _ (b := L) rfl _
      have hV7 := hV.rec2 h7 (World.putObj_heap_same (o := .loop (RL .exhausted none)) hL6)
      have hD7 : (W6.putObj L (.loop (RL .exhausted none))).heap[We.heap.size]? = some (.deferred (some [])) := (h7.block _ (by have := ho6.size; omega) (by omega)).trans hD6
      have hO7 : Only (fun k => w.heap.size ≤ k) w (W6.putObj L (.loop (RL .exhausted none))) := hO06.trans (h7.mono (fun k _ e => by rw [e]; omega))
      generalize W6.putObj L (.loop (RL .exhausted none)) = W7 at *
      have h8 : Only (· = We.heap.size) W7 (W7.putObj We.heap.size (.deferred none)) := Only.putObj (A := (· = We.heap.size)) _ (b := We.heap.size) rfl _
      have hne8 : ∀ g, L + 1 ≤ g → g ≠ We.heap.size := fun g hg => by omega
      have hlt7 := hV7.prs.lt
      have hP8 : Pairs (L + 1) (W7.putObj We.heap.size (.deferred none)) vo ps _ := hV7.prs.same (fun g e => h8.block g (hlt7.1 g e).2 (hne8 g (hlt7.1 g e).1)) (fun g e => h8.block g (hlt7.2 g e).2 (hne8 g (hlt7.2 g e).1))
      have hB8 : Below w.heap.size w (W7.putObj We.heap.size (.deferred none)) := (hO7.trans (h8.mono (fun k _ e => by rw [e]; omega))).below (Nat.le_refl _) (fun k e => e)
      have hr := HR.out _ vo ps hB8 (by rw [heq]; exact hP8.mono (by omega))
      have HD7 := Lib.hid hD7
      have c9 := hV7.out.cells.c1
      obtain ⟨po, co, rfl⟩ := hV7.prs.own.slice
      have Hr := Lib.hid hr
      clear hs3 hse hs5 eL hV hV7 hD6 hD7 hO06 hO7 h7 h8 hP8 hB8 hr hlt7 hne8 heq ho6 hup6 hL6
      go_wp2_with fail
      refine ⟨by simp, .inl ⟨_, _, rfl, run_takeDeferred HD7.out, ?_⟩⟩
      exact ⟨_, results_tmp (t := 4) rfl _ _ _, fin Hr.out rfl⟩
    · exact hz.elim
end Go.Proofs.Ytmlcnfomiemdpaa
