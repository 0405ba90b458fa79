/- Trees: Range. (Printed by treera.py.) -/
import Derived.Test.YtmlcnfomiemdpaaTreeRh
import Derived.Test.YtmlcnfomiemdpaaQuietIn
namespace Go.Proofs.Ytmlcnfomiemdpaa
open Go.RowKit Go.Shelf
attribute [local go_sem ↓] Go.wp_at_zero Go.wp_at_succ
attribute [local go_sem] Oper.semAt_some
set_option linter.unusedVariables false
set_option linter.unusedSimpArgs false

theorem Own.slice {α : Type} {enc : α → List Value} {e : TypeId} {size lo : Nat} {w : World} {v : Value} {xs : List α} (h : Own enc e size lo w v xs) : ∃ p cap, v = .slice p xs.length cap := by
  rcases h.2 with ⟨e1, hn⟩ | ⟨g, cap, cur, e1, -⟩
  · exact ⟨none, 0, by rw [e1, hn]⟩
  · exact ⟨_, cap, e1⟩
def RgJ (b0 L ob : Nat) (boxes : List (Nat × Value × TypeId)) (to : List UInt8) (most : Int) (o : Obj) : (Nat → Prop) → PL → World → Prop := fun C d W =>
  OutC b0 L ob boxes o C d W ∧ (∀ x ∈ d, Within to x) ∧ ((d.length : Int) ≤ most ∨ d = [])
def RgZ (b0 L ob : Nat) (boxes : List (Nat × Value × TypeId)) (to : List UInt8) (most : Int) (total : PL) (o : Obj) : (Nat → Prop) → World → Prop := fun C W =>
  ∃ d x rest, total = d ++ x :: rest ∧ (∀ x ∈ d, Within to x) ∧ ((d.length : Int) ≤ most ∨ d = []) ∧ (most ≤ (d.length : Int) ∨ ¬ Within to x) ∧ OutC b0 L ob boxes o C d W
set_option maxRecDepth 100000 in
set_option maxHeartbeats 16000000 in
theorem Range_any (B : Nat → Prop) (lo klo khi tlo thi : Nat) (t : T) (low to : List UInt8) (p lv tv : Value) (most : Int) (w : World) (hB : ∀ b, B b → b < lo) (hlo : lo ≤ w.heap.size) (ht : Tr B lo w t p) (hlow : Bytes klo khi w lv low) (hkhi : khi ≤ w.heap.size) (hto : Bytes tlo thi w tv to) (hthi : thi ≤ w.heap.size)
    (hm : t.many ≤ 1000000) (hlen : ∀ x ∈ t.toL, x.1.length ≤ 100000000 ∧ x.2.length ≤ 100000000)
    (R : Ending → World → Prop) (hR : ∀ w' v ps, Below w.heap.size w w' → Pairs w.heap.size w' v ps (rangeL to most (t.from low)) → R (.returned v) w') :
    Calls Try.prog 14 #[p, lv, tv, .int .i64 most] w R := by
  have HR := Lib.hid hR
  have Hlen := Lib.hid hlen
  have Hto := Lib.hid hto
  obtain ⟨al, cl, rfl, -, -, -⟩ := hlow.form
  obtain ⟨at', ct, rfl, -, -, -⟩ := hto.form
  have hByl : By (· < w.heap.size) w (.slice al low.length cl) low := By.ofBytes hlow hkhi
  have hB3 : Below w.heap.size w (((w.alloc (.cells #[.slice at' to.length ct] 30)).alloc (.cells #[.int .i64 most] 3)).alloc (.cells #[.slice none 0 0] 38)) := (((Below.refl _ _).alloc (Nat.le_refl _) _).alloc (by simp) _).alloc (by simp; omega) _
  have hb6 : Blk (((w.alloc (.cells #[.slice at' to.length ct] 30)).alloc (.cells #[.int .i64 most] 3)).alloc (.cells #[.slice none 0 0] 38)) w.heap.size [.slice at' to.length ct] 30 := ((Blk.new w [.slice at' to.length ct] 30 rfl).alloc _).alloc _
  have hb7 : Blk (((w.alloc (.cells #[.slice at' to.length ct] 30)).alloc (.cells #[.int .i64 most] 3)).alloc (.cells #[.slice none 0 0] 38)) (w.heap.size + 1) [.int .i64 most] 3 := (Blk.new _ [.int .i64 most] 3 (by simp)).alloc _
  have hb8 : Blk (((w.alloc (.cells #[.slice at' to.length ct] 30)).alloc (.cells #[.int .i64 most] 3)).alloc (.cells #[.slice none 0 0] 38)) (w.heap.size + 2) [.slice none 0 0] 38 := Blk.new _ [.slice none 0 0] 38 (by simp)
  have hs3 : (((w.alloc (.cells #[.slice at' to.length ct] 30)).alloc (.cells #[.int .i64 most] 3)).alloc (.cells #[.slice none 0 0] 38)).heap.size = w.heap.size + 3 := by simp
  clear hR hlen hlow hto
  refine (callsIn_wide (n := 3)).1 (callsIn_of_wp_marks Try.func14 rfl trivial ?_ rfl)
  refine wpIn_wide.2 ?_
  simp only [Try.ntmps14, List.size_toArray, List.length_cons, Nat.reduceAdd, Nat.reduceSub, Array.replicate_succ, Array.replicate_zero, List.push_toArray, List.append_toArray, List.nil_append, List.cons_append, List.length_nil]
  go_wp2_with fail
  generalize ((w.alloc (.cells #[.slice at' to.length ct] 30)).alloc (.cells #[.int .i64 most] 3)).alloc (.cells #[.slice none 0 0] 38) = W3 at *
  refine root_any (Xs B lo w) W3.heap.size t p W3 (Tr.fix ht hB hlo hB3 _) _ fun q hn => ?_
  have Hn : Hid (Nd (· < w.heap.size) W3 t (.pointer q)) := Lib.hid (Nd.on (fun _ _ => rfl) (fun b h => h.elim (Xs.lt hB hlo) (fun e => absurd e.2 (Nat.not_lt.2 e.1))) t hn)
  clear hn ht
  go_wp2_with fail
  refine from_any q al low.length cl W3 _ ?_
  go_wp2_with fail
  have hqb : Blk ((W3.alloc (.cells #[.pointer q] 50)).alloc (.cells #[.slice al low.length cl] 30)) W3.heap.size [.pointer q] 50 := (Blk.new W3 [.pointer q] 50 rfl).alloc _
  have hkbk : Blk ((W3.alloc (.cells #[.pointer q] 50)).alloc (.cells #[.slice al low.length cl] 30)) (W3.heap.size + 1) [.slice al low.length cl] 30 := Blk.new _ [.slice al low.length cl] 30 (by simp)
  have hse : ((W3.alloc (.cells #[.pointer q] 50)).alloc (.cells #[.slice al low.length cl] 30)).heap.size = W3.heap.size + 2 := by simp
  have hBe : Below W3.heap.size W3 ((W3.alloc (.cells #[.pointer q] 50)).alloc (.cells #[.slice al low.length cl] 30)) := ((Below.refl _ _).alloc (Nat.le_refl _) _).alloc (by simp) _
  generalize (W3.alloc (.cells #[.pointer q] 50)).alloc (.cells #[.slice al low.length cl] 30) = We at *
  refine wp_rangeFuncR 1 (gf := 46) rfl (enters_of Try.func46 (by kernel_rfl) rfl) (fun fn RL hRL => ?_)
  have HRL := Lib.hid hRL
  clear hRL
  have hB5 : Below We.heap.size We ((We.alloc (.deferred (some []))).alloc (.loop (RL .ready none))) := ((Below.refl _ _).alloc (Nat.le_refl _) _).alloc (by simp) _
  have hlD : ((We.alloc (.deferred (some []))).alloc (.loop (RL .ready none))).heap[We.heap.size]? = some (.deferred (some [])) := (Below.heap_alloc _ _ _ (by simp)).trans (World.alloc_heap_new We _)
  have hlL : ((We.alloc (.deferred (some []))).alloc (.loop (RL .ready none))).heap[We.heap.size + 1]? = some (.loop (RL .ready none)) := by
    have := World.alloc_heap_new (We.alloc (.deferred (some []))) (.loop (RL .ready none))
    rwa [World.size_alloc] at this
  have hs5 : ((We.alloc (.deferred (some []))).alloc (.loop (RL .ready none))).heap.size = We.heap.size + 2 := by simp
  generalize (We.alloc (.deferred (some []))).alloc (.loop (RL .ready none)) = W5 at *
  have hB35 : Below W3.heap.size W3 W5 := hBe.trans (hB5.mono (by omega))
  have hBw5 : Below w.heap.size w W5 := hB3.trans (hB35.mono (by omega))
  obtain ⟨L, eL⟩ : ∃ L, L = We.heap.size + 1 := ⟨_, rfl⟩
  rw [← eL] at hlL ⊢
  have hV5 : OutV w.heap.size L (w.heap.size + 2) [(w.heap.size, .slice at' to.length ct, 30), (w.heap.size + 1, .int .i64 most, 3)] (.loop (RL .ready none)) (fun k => k = w.heap.size ∨ k = w.heap.size + 1 ∨ k = w.heap.size + 2 ∨ k = L) [] W5 (.slice none 0 0) [] :=
    { cl := by rintro k (e | e | e | e) <;> omega
      bx := by
        intro x hx
        rcases List.mem_cons.1 hx with rfl | hx
        · exact ⟨by show w.heap.size < w.heap.size + 2; omega, .inl rfl, hb6.below hB35 (by omega)⟩
        · rw [List.mem_singleton.1 hx]
          exact ⟨by show w.heap.size + 1 < w.heap.size + 2; omega, .inr (.inl rfl), hb7.below hB35 (by omega)⟩
      co := .inr (.inr (.inl rfl))
      ol := by omega
      cL := .inr (.inr (.inr rfl))
      rcd := hlL
      out := hb8.below hB35 (by omega)
      prs := Pairs.nil _ _
      cv := fun g e => by cases e
      cb := fun g e => by cases e }
  rw [hs3] at hqb hkbk
  have hnd5 : Nd (· < w.heap.size) W5 t (.pointer q) := Nd.on (fun k hk => hB35.block k (by show k < W3.heap.size; have : k < w.heap.size := hk; omega)) (fun _ h => h) t Hn.out
  have hby5 : By (· < w.heap.size) W5 (.slice al low.length cl) low := By.on hByl (fun k hk => hBw5.block k hk) (fun _ h => h)
  refine (from1_any low (· < w.heap.size) w (t.from low) t L (RgJ w.heap.size L (w.heap.size + 2) [(w.heap.size, .slice at' to.length ct, 30), (w.heap.size + 1, .int .i64 most, 3)] to most (.loop (RL .ready none))) (RgZ w.heap.size L (w.heap.size + 2) [(w.heap.size, .slice at' to.length ct, 30), (w.heap.size + 1, .int .i64 most, 3)] to most (t.from low) (.loop (RL .done (some (.exit 0))))) ?hcons (w.heap.size + 3) (w.heap.size + 3 + 1) q al cl (fun k => k = w.heap.size ∨ k = w.heap.size + 1 ∨ k = w.heap.size + 2 ∨ k = L) [] [] W5 1 hnd5 hby5 (fun k hk => ⟨?hF, Nat.lt_of_lt_of_le hk hBw5.size⟩)
    ((hqb.below hB5 (by omega)).cells.c1) ((hkbk.below hB5 (by omega)).cells.c1) ⟨?hnb, by omega⟩ ⟨?hkb, by omega⟩ ⟨⟨_, _, hV5⟩, (fun x hx => by cases hx), .inr rfl⟩ (by simp) (fun k hk => hBw5.block k hk)).mono ?hend
  case hF => have : k < w.heap.size := hk
             rintro (e | e | e | e) <;> omega
  case hnb => rintro (e | e | e | e) <;> omega
  case hkb => rintro (e | e | e | e) <;> omega
  case hcons =>
    refine ⟨fun C d W W' hj hO => ⟨hj.1.on hO, hj.2⟩, ?_, fun C d W hj k hk => ?_, ?_, ?_⟩
    · rintro C W W' ⟨d, x, rest, h1, h2, h3, h4, h5⟩ hO
      exact ⟨d, x, rest, h1, h2, h3, h4, h5.on hO⟩
    · obtain ⟨⟨v, ps, h⟩, -⟩ := hj
      exact (h.cl k hk).2
    · rintro C W ⟨d, x, rest, h1, h2, h3, h4, ⟨v, ps, h5⟩⟩ k hk
      exact (h5.cl k hk).2
    · have HeL := Lib.hid eL
      have Hse := Lib.hid hse
      have Hs5 := Lib.hid hs5
      have Hs3 := Lib.hid hs3
      have hgw : w.heap.size + 5 < L := by omega
      clear eL hse hs5 hs3 hV5 hnd5 hby5 hb6 hb7 hb8 hB3 hqb hkbk hBe hB5 hlD hlL hB35 hBw5 hByl Hn
      intro m2 C2 d2 rest2 Wy k2 v2 lt2 rt2 p2 he2 hj2 hn2 hF2 hw2
      obtain ⟨⟨vo, ps, hV⟩, hwi, hle⟩ := hj2
      obtain ⟨b2, kv2, vv2, lp2, rp2, rfl, hb2, -⟩ := id hn2
      have hdl : d2.length ≤ 1000000 := by
        have h1 := t.from_len low
        rw [he2, List.length_append] at h1
        omega
      have hln := Hlen.out (k2, v2) (t.from_mem low _ (by rw [he2]; exact List.mem_append_right _ List.mem_cons_self))
      have He2 := Lib.hid he2
      clear he2
      refine yieldAt_recR HRL.out hV.rcd rfl ?_
      have HV := Lib.hid hV
      have Hn2 := Lib.hid hn2
      have Hwi := Lib.hid hwi
      have Hle := Lib.hid hle
      clear hV hn2 hwi hle
      gi_wp2
      refine ⟨HV.out.rcd, ?_⟩
      have hLy := (HV.out.cl L HV.out.cL).2
      have ho3 : Only (· = L) Wy (Wy.putObj L (.loop (RL .busy none))) := Only.putObj (A := (· = L)) Wy (b := L) rfl _
      have hl3 : (Wy.putObj L (.loop (RL .busy none))).heap[L]? = some (.loop (RL .busy none)) := World.putObj_heap_same hLy
      have hs3 : (Wy.putObj L (.loop (RL .busy none))).heap.size = Wy.heap.size := World.putObj_size
      generalize Wy.putObj L (.loop (RL .busy none)) = Wq at *
      have hV3 : OutV w.heap.size L (w.heap.size + 2) [(w.heap.size, .slice at' to.length ct, 30), (w.heap.size + 1, .int .i64 most, 3)] (.loop (RL .busy none)) C2 d2 Wq vo ps := HV.out.rec2 ho3 hl3
      have HV3 := Lib.hid hV3
      obtain ⟨po, co, rfl⟩ := hV3.prs.own.slice
      have hpl := hV3.prs.len
      rw [hpl] at HV3 HV
      have c6 := (hV3.bx _ List.mem_cons_self).2.2.cells.c1
      have c7 := (hV3.bx _ (List.mem_cons_of_mem _ List.mem_cons_self)).2.2.cells.c1
      have c9 := hV3.out.cells.c1
      have f9 := hV3.out.free 0
      rw [hpl] at c9
      have hn3 := Nd.on (w' := Wq) (fun z hz => ho3.block z (hF2 z hz).2 (fun e => (hF2 z hz).1 (e ▸ HV.out.cL))) (fun _ h => h) _ Hn2.out
      obtain ⟨b3, kv3, vv3, lp3, rp3, e3, hb3, hc3, hk3, hv3, -, -⟩ := hn3
      injection e3 with e3
      injection e3 with e3
      injection e3 with e3
      subst e3
      obtain ⟨n0, n1, -, -, -, -⟩ := hc3.c6
      have hto3 : Bytes 0 w.heap.size Wq (.slice at' to.length ct) to := by
        have h1 := Hto.out.mono (flat_loc _) (Nat.zero_le _) hthi
        refine h1.agree (flat_loc _) (fun z hz1 hz2 => ?_)
        exact (ho3.block z (hF2 z hz2).2 (fun e => (hF2 z hz2).1 (e ▸ HV.out.cL))).trans (hw2 z hz2)
      have Hk3 := Lib.hid hk3
      have Hv3 := Lib.hid hv3
      have Hto3 := Lib.hid hto3
      have Hs9 := Lib.hid hs3
      have Ho3 := Lib.hid ho3
      obtain ⟨ak, ck, rfl, -, -⟩ := hk3.form
      obtain ⟨av, cv, rfl, -, -⟩ := hv3.form
      clear hc3 hk3 hv3 hto3 ho3 hs3 hpl hV3 hl3
      have Hstop : Hid ((most ≤ (d2.length : Int) ∨ ¬ Within to (k2, v2)) → ∀ n, Told (RgJ w.heap.size L (w.heap.size + 2) [(w.heap.size, .slice at' to.length ct, 30), (w.heap.size + 1, .int .i64 most, 3)] to most (.loop (RL .ready none))) (RgZ w.heap.size L (w.heap.size + 2) [(w.heap.size, .slice at' to.length ct, 30), (w.heap.size + 1, .int .i64 most, 3)] to most (t.from low) (.loop (RL .done (some (.exit 0))))) C2 d2 (k2, v2) Wy (.returned (.bool false)) ((Wq.drewN n).putObj L (.loop (RL .done (some (.exit 0)))))) := Lib.hid (fun hst n => by
        have hLq : L < (Wq.drewN n).heap.size := by show L < Wq.heap.size; rw [Hs9.out]; exact hLy
        have h9 : Only (· = L) Wq ((Wq.drewN n).putObj L (.loop (RL .done (some (.exit 0))))) := Only.trans (b := Wq.drewN n) ⟨rfl, rfl, rfl, Nat.le_refl _, fun _ _ _ => rfl⟩ (Only.putObj (A := (· = L)) _ (b := L) rfl _)
        exact ⟨C2, (Ho3.out.trans h9).mono (fun k _ e => e ▸ HV3.out.cL), Up.refl _ _, .inr ⟨rfl, d2, (k2, v2), rest2, He2.out, Hwi.out, Hle.out, hst, _, _, HV3.out.rec2 h9 (World.putObj_heap_same hLq)⟩⟩)
      have Hl3 := Lib.hid HV3.out.rcd
      gi_wp2_with fail
      by_cases hA : most ≤ (d2.length : Int)
      · have hst := Hstop.out (.inl hA)
        have Hst := Lib.hid hst
        clear hst
        refine wpIn_region_held (S := fun w' => w' = Wq.drew) (by kernel_rfl) (by rintro ⟨a, w, h⟩; exact h) (by kernel_rfl) rfl (fun hHeld => ?_)
        refine wpAnyH_take (i := 0) (v := .slice po d2.length co) rfl (by kernel_rfl) (by kernel_rfl) (by kernel_rfl) (fun _ _ _ h => h) (Or.inl ⟨by rfl, ?_⟩) hHeld ?_
        · intro w' hSw; subst hSw; go_simp
        try simp only [Act.put, List.getElem_toArray, List.getElem_cons_succ, List.getElem_cons_zero, List.setIfInBounds_toArray, List.set_cons_zero, List.set_cons_succ]
        refine wpAnyH_take (i := 1) (v := .int .i64 d2.length) rfl (by kernel_rfl) (by kernel_rfl) (by kernel_rfl) (fun _ _ _ h => h) (Or.inl ⟨by rfl, ?_⟩) hHeld ?_
        · intro w' hSw; subst hSw; go_simp
        try simp only [Act.put, List.getElem_toArray, List.getElem_cons_succ, List.getElem_cons_zero, List.setIfInBounds_toArray, List.set_cons_zero, List.set_cons_succ]
        refine wpAnyH_take (i := 2) (v := .int .i64 most) rfl (by kernel_rfl) (by kernel_rfl) (by kernel_rfl) (fun _ _ _ h => h) (Or.inl ⟨by rfl, ?_⟩) hHeld ?_
        · intro w' hSw; subst hSw; go_simp
        try simp only [Act.put, List.getElem_toArray, List.getElem_cons_succ, List.getElem_cons_zero, List.setIfInBounds_toArray, List.set_cons_zero, List.set_cons_succ]
        refine wpAnyH_take (i := 3) (v := .bool true) rfl (by kernel_rfl) (by kernel_rfl) (by kernel_rfl) (fun _ _ _ h => h) (Or.inl ⟨by rfl, ?_⟩) hHeld ?_
        · intro w' hSw; subst hSw; go_simp
        try simp only [Act.put, List.getElem_toArray, List.getElem_cons_succ, List.getElem_cons_zero, List.setIfInBounds_toArray, List.set_cons_zero, List.set_cons_succ]
        refine wpAnyH_take (i := 4) (v := .bool true) rfl (by kernel_rfl) (by kernel_rfl) (by kernel_rfl) (fun _ _ _ h => h) (Or.inl ⟨by rfl, ?_⟩) hHeld ?_
        · intro w' hSw; subst hSw; go_simp
        try simp only [Act.put, List.getElem_toArray, List.getElem_cons_succ, List.getElem_cons_zero, List.setIfInBounds_toArray, List.set_cons_zero, List.set_cons_succ]
        refine wpAnyH_take (i := 5) (v := undef) rfl (by kernel_rfl) (by kernel_rfl) (by kernel_rfl) (fun _ _ _ h => h) (Or.inr ⟨by kernel_rfl, rfl⟩) hHeld ?_
        try simp only [Act.put, List.getElem_toArray, List.getElem_cons_succ, List.getElem_cons_zero, List.setIfInBounds_toArray, List.set_cons_zero, List.set_cons_succ]
        refine wpAnyH_take (i := 6) (v := undef) rfl (by kernel_rfl) (by kernel_rfl) (by kernel_rfl) (fun _ _ _ h => h) (Or.inr ⟨by kernel_rfl, rfl⟩) hHeld ?_
        try simp only [Act.put, List.getElem_toArray, List.getElem_cons_succ, List.getElem_cons_zero, List.setIfInBounds_toArray, List.set_cons_zero, List.set_cons_succ]
        refine wpAnyH_take (i := 7) (v := undef) rfl (by kernel_rfl) (by kernel_rfl) (by kernel_rfl) (fun _ _ _ h => h) (Or.inr ⟨by kernel_rfl, rfl⟩) hHeld ?_
        try simp only [Act.put, List.getElem_toArray, List.getElem_cons_succ, List.getElem_cons_zero, List.setIfInBounds_toArray, List.set_cons_zero, List.set_cons_succ]
        refine wpAnyH_take (i := 8) (v := undef) rfl (by kernel_rfl) (by kernel_rfl) (by kernel_rfl) (fun _ _ _ h => h) (Or.inr ⟨by kernel_rfl, rfl⟩) hHeld ?_
        try simp only [Act.put, List.getElem_toArray, List.getElem_cons_succ, List.getElem_cons_zero, List.setIfInBounds_toArray, List.set_cons_zero, List.set_cons_succ]
        refine wpAnyH_take (i := 9) (v := undef) rfl (by kernel_rfl) (by kernel_rfl) (by kernel_rfl) (fun _ _ _ h => h) (Or.inr ⟨by kernel_rfl, rfl⟩) hHeld ?_
        try simp only [Act.put, List.getElem_toArray, List.getElem_cons_succ, List.getElem_cons_zero, List.setIfInBounds_toArray, List.set_cons_zero, List.set_cons_succ]
        refine wpAnyH_take (i := 10) (v := undef) rfl (by kernel_rfl) (by kernel_rfl) (by kernel_rfl) (fun _ _ _ h => h) (Or.inr ⟨by kernel_rfl, rfl⟩) hHeld ?_
        try simp only [Act.put, List.getElem_toArray, List.getElem_cons_succ, List.getElem_cons_zero, List.setIfInBounds_toArray, List.set_cons_zero, List.set_cons_succ]
        refine wpAnyH_take (i := 11) (v := undef) rfl (by kernel_rfl) (by kernel_rfl) (by kernel_rfl) (fun _ _ _ h => h) (Or.inr ⟨by kernel_rfl, rfl⟩) hHeld ?_
        try simp only [Act.put, List.getElem_toArray, List.getElem_cons_succ, List.getElem_cons_zero, List.setIfInBounds_toArray, List.set_cons_zero, List.set_cons_succ]
        refine wpAnyH_take (i := 12) (v := undef) rfl (by kernel_rfl) (by kernel_rfl) (by kernel_rfl) (fun _ _ _ h => h) (Or.inr ⟨by kernel_rfl, rfl⟩) hHeld ?_
        try simp only [Act.put, List.getElem_toArray, List.getElem_cons_succ, List.getElem_cons_zero, List.setIfInBounds_toArray, List.set_cons_zero, List.set_cons_succ]
        refine wpAnyH_take (i := 13) (v := undef) rfl (by kernel_rfl) (by kernel_rfl) (by kernel_rfl) (fun _ _ _ h => h) (Or.inr ⟨by kernel_rfl, rfl⟩) hHeld ?_
        try simp only [Act.put, List.getElem_toArray, List.getElem_cons_succ, List.getElem_cons_zero, List.setIfInBounds_toArray, List.set_cons_zero, List.set_cons_succ]
        refine wpAnyH_take (i := 14) (v := undef) rfl (by kernel_rfl) (by kernel_rfl) (by kernel_rfl) (fun _ _ _ h => h) (Or.inr ⟨by kernel_rfl, rfl⟩) hHeld ?_
        try simp only [Act.put, List.getElem_toArray, List.getElem_cons_succ, List.getElem_cons_zero, List.setIfInBounds_toArray, List.set_cons_zero, List.set_cons_succ]
        refine wpAnyH_take (i := 15) (v := undef) rfl (by kernel_rfl) (by kernel_rfl) (by kernel_rfl) (fun _ _ _ h => h) (Or.inr ⟨by kernel_rfl, rfl⟩) hHeld ?_
        try simp only [Act.put, List.getElem_toArray, List.getElem_cons_succ, List.getElem_cons_zero, List.setIfInBounds_toArray, List.set_cons_zero, List.set_cons_succ]
        refine wpAnyH_take (i := 16) (v := undef) rfl (by kernel_rfl) (by kernel_rfl) (by kernel_rfl) (fun _ _ _ h => h) (Or.inr ⟨by kernel_rfl, rfl⟩) hHeld ?_
        try simp only [Act.put, List.getElem_toArray, List.getElem_cons_succ, List.getElem_cons_zero, List.setIfInBounds_toArray, List.set_cons_zero, List.set_cons_succ]
        refine wpAnyH_take (i := 17) (v := .bool true) rfl (by kernel_rfl) (by kernel_rfl) (by kernel_rfl) (fun _ _ _ h => h) (Or.inl ⟨by rfl, ?_⟩) hHeld ?_
        · intro w' hSw; subst hSw; go_simp
        try simp only [Act.put, List.getElem_toArray, List.getElem_cons_succ, List.getElem_cons_zero, List.setIfInBounds_toArray, List.set_cons_zero, List.set_cons_succ]
        refine wpAnyH_done (by kernel_rfl) ?_ _
        gi_wp2_with fail
        exact roundPost_exitR HRL.out Hl3.out (Hst.out 1)
      · by_cases hE : to = []
        · have hz : ¬ (0 < to.length) := by rw [hE]; simp
          have hwx : Within to (k2, v2) := .inl hE
          clear hE
          refine wpIn_region_held (S := fun w' => w' = Wq.drew) (by kernel_rfl) (by rintro ⟨a, w, h⟩; exact h) (by kernel_rfl) rfl (fun hHeld => ?_)
          refine wpAnyH_take (i := 0) (v := .slice po d2.length co) rfl (by kernel_rfl) (by kernel_rfl) (by kernel_rfl) (fun _ _ _ h => h) (Or.inl ⟨by rfl, ?_⟩) hHeld ?_
          · intro w' hSw; subst hSw; go_simp
          try simp only [Act.put, List.getElem_toArray, List.getElem_cons_succ, List.getElem_cons_zero, List.setIfInBounds_toArray, List.set_cons_zero, List.set_cons_succ]
          refine wpAnyH_take (i := 1) (v := .int .i64 d2.length) rfl (by kernel_rfl) (by kernel_rfl) (by kernel_rfl) (fun _ _ _ h => h) (Or.inl ⟨by rfl, ?_⟩) hHeld ?_
          · intro w' hSw; subst hSw; go_simp
          try simp only [Act.put, List.getElem_toArray, List.getElem_cons_succ, List.getElem_cons_zero, List.setIfInBounds_toArray, List.set_cons_zero, List.set_cons_succ]
          refine wpAnyH_take (i := 2) (v := .int .i64 most) rfl (by kernel_rfl) (by kernel_rfl) (by kernel_rfl) (fun _ _ _ h => h) (Or.inl ⟨by rfl, ?_⟩) hHeld ?_
          · intro w' hSw; subst hSw; go_simp
          try simp only [Act.put, List.getElem_toArray, List.getElem_cons_succ, List.getElem_cons_zero, List.setIfInBounds_toArray, List.set_cons_zero, List.set_cons_succ]
          refine wpAnyH_take (i := 3) (v := .bool false) rfl (by kernel_rfl) (by kernel_rfl) (by kernel_rfl) (fun _ _ _ h => h) (Or.inl ⟨by rfl, ?_⟩) hHeld ?_
          · intro w' hSw; subst hSw; go_simp
          try simp only [Act.put, List.getElem_toArray, List.getElem_cons_succ, List.getElem_cons_zero, List.setIfInBounds_toArray, List.set_cons_zero, List.set_cons_succ]
          refine wpAnyH_take (i := 4) (v := .bool false) rfl (by kernel_rfl) (by kernel_rfl) (by kernel_rfl) (fun _ _ _ h => h) (Or.inl ⟨by rfl, ?_⟩) hHeld ?_
          · intro w' hSw; subst hSw; go_simp
          try simp only [Act.put, List.getElem_toArray, List.getElem_cons_succ, List.getElem_cons_zero, List.setIfInBounds_toArray, List.set_cons_zero, List.set_cons_succ]
          refine wpAnyH_take (i := 5) (v := .slice at' to.length ct) rfl (by kernel_rfl) (by kernel_rfl) (by kernel_rfl) (fun _ _ _ h => h) (Or.inl ⟨by rfl, ?_⟩) hHeld ?_
          · intro w' hSw; subst hSw; go_simp
          try simp only [Act.put, List.getElem_toArray, List.getElem_cons_succ, List.getElem_cons_zero, List.setIfInBounds_toArray, List.set_cons_zero, List.set_cons_succ]
          refine wpAnyH_take (i := 6) (v := .int .i64 to.length) rfl (by kernel_rfl) (by kernel_rfl) (by kernel_rfl) (fun _ _ _ h => h) (Or.inl ⟨by rfl, ?_⟩) hHeld ?_
          · intro w' hSw; subst hSw; go_simp
          try simp only [Act.put, List.getElem_toArray, List.getElem_cons_succ, List.getElem_cons_zero, List.setIfInBounds_toArray, List.set_cons_zero, List.set_cons_succ]
          refine wpAnyH_take (i := 7) (v := .bool false) rfl (by kernel_rfl) (by kernel_rfl) (by kernel_rfl) (fun _ _ _ h => h) (Or.inl ⟨by rfl, ?_⟩) hHeld ?_
          · intro w' hSw; subst hSw; go_simp
          try simp only [Act.put, List.getElem_toArray, List.getElem_cons_succ, List.getElem_cons_zero, List.setIfInBounds_toArray, List.set_cons_zero, List.set_cons_succ]
          refine wpAnyH_take (i := 8) (v := .bool false) rfl (by kernel_rfl) (by kernel_rfl) (by kernel_rfl) (fun _ _ _ h => h) (Or.inl ⟨by rfl, ?_⟩) hHeld ?_
          · intro w' hSw; subst hSw; go_simp
          try simp only [Act.put, List.getElem_toArray, List.getElem_cons_succ, List.getElem_cons_zero, List.setIfInBounds_toArray, List.set_cons_zero, List.set_cons_succ]
          refine wpAnyH_take (i := 9) (v := undef) rfl (by kernel_rfl) (by kernel_rfl) (by kernel_rfl) (fun _ _ _ h => h) (Or.inr ⟨by kernel_rfl, rfl⟩) hHeld ?_
          try simp only [Act.put, List.getElem_toArray, List.getElem_cons_succ, List.getElem_cons_zero, List.setIfInBounds_toArray, List.set_cons_zero, List.set_cons_succ]
          refine wpAnyH_take (i := 10) (v := undef) rfl (by kernel_rfl) (by kernel_rfl) (by kernel_rfl) (fun _ _ _ h => h) (Or.inr ⟨by kernel_rfl, rfl⟩) hHeld ?_
          try simp only [Act.put, List.getElem_toArray, List.getElem_cons_succ, List.getElem_cons_zero, List.setIfInBounds_toArray, List.set_cons_zero, List.set_cons_succ]
          refine wpAnyH_take (i := 11) (v := undef) rfl (by kernel_rfl) (by kernel_rfl) (by kernel_rfl) (fun _ _ _ h => h) (Or.inr ⟨by kernel_rfl, rfl⟩) hHeld ?_
          try simp only [Act.put, List.getElem_toArray, List.getElem_cons_succ, List.getElem_cons_zero, List.setIfInBounds_toArray, List.set_cons_zero, List.set_cons_succ]
          refine wpAnyH_take (i := 12) (v := undef) rfl (by kernel_rfl) (by kernel_rfl) (by kernel_rfl) (fun _ _ _ h => h) (Or.inr ⟨by kernel_rfl, rfl⟩) hHeld ?_
          try simp only [Act.put, List.getElem_toArray, List.getElem_cons_succ, List.getElem_cons_zero, List.setIfInBounds_toArray, List.set_cons_zero, List.set_cons_succ]
          refine wpAnyH_take (i := 13) (v := undef) rfl (by kernel_rfl) (by kernel_rfl) (by kernel_rfl) (fun _ _ _ h => h) (Or.inr ⟨by kernel_rfl, rfl⟩) hHeld ?_
          try simp only [Act.put, List.getElem_toArray, List.getElem_cons_succ, List.getElem_cons_zero, List.setIfInBounds_toArray, List.set_cons_zero, List.set_cons_succ]
          refine wpAnyH_take (i := 14) (v := undef) rfl (by kernel_rfl) (by kernel_rfl) (by kernel_rfl) (fun _ _ _ h => h) (Or.inr ⟨by kernel_rfl, rfl⟩) hHeld ?_
          try simp only [Act.put, List.getElem_toArray, List.getElem_cons_succ, List.getElem_cons_zero, List.setIfInBounds_toArray, List.set_cons_zero, List.set_cons_succ]
          refine wpAnyH_take (i := 15) (v := undef) rfl (by kernel_rfl) (by kernel_rfl) (by kernel_rfl) (fun _ _ _ h => h) (Or.inr ⟨by kernel_rfl, rfl⟩) hHeld ?_
          try simp only [Act.put, List.getElem_toArray, List.getElem_cons_succ, List.getElem_cons_zero, List.setIfInBounds_toArray, List.set_cons_zero, List.set_cons_succ]
          refine wpAnyH_take (i := 16) (v := .bool false) rfl (by kernel_rfl) (by kernel_rfl) (by kernel_rfl) (fun _ _ _ h => h) (Or.inl ⟨by rfl, ?_⟩) hHeld ?_
          · intro w' hSw; subst hSw; go_simp
          try simp only [Act.put, List.getElem_toArray, List.getElem_cons_succ, List.getElem_cons_zero, List.setIfInBounds_toArray, List.set_cons_zero, List.set_cons_succ]
          refine wpAnyH_take (i := 17) (v := .bool false) rfl (by kernel_rfl) (by kernel_rfl) (by kernel_rfl) (fun _ _ _ h => h) (Or.inl ⟨by rfl, ?_⟩) hHeld ?_
          · intro w' hSw; subst hSw; go_simp
          try simp only [Act.put, List.getElem_toArray, List.getElem_cons_succ, List.getElem_cons_zero, List.setIfInBounds_toArray, List.set_cons_zero, List.set_cons_succ]
          refine wpAnyH_done (by kernel_rfl) ?_ _
          gi_wp2_with fail
          have hWr : Wq.drew.drew.heap.size = Wq.heap.size := rfl
          have hky := By.bytes Hk3.out (hi := Wq.heap.size) (fun z hz => by have := Hs9.out; have : z < w.heap.size := hz; omega)
          have hvy := By.bytes Hv3.out (hi := Wq.heap.size) (fun z hz => by have := Hs9.out; have : z < w.heap.size := hz; omega)
          have hobr : w.heap.size + 2 < Wq.heap.size := by have := Hs9.out; omega
          have hb2q : b2 < Wq.heap.size := by have := Hs9.out; have : b2 < w.heap.size := hb2; omega
          have hP0 := HV3.out.prs
          obtain ⟨Wr, eWr⟩ : ∃ Wr, Wr = Wq.drew.drew := ⟨_, rfl⟩
          have hOr : Only (fun _ => False) Wq Wr := by rw [eWr]; exact (Only.drew Wq).trans (Only.drew _)
          have hsr : Wr.heap.size = Wq.heap.size := by rw [eWr]; rfl
          have hhr : Wr.heap = Wq.heap := by rw [eWr]; rfl
          have Hky := Lib.hid (hky.agree (flat_loc _) (w' := Wr) (fun z _ _ => by rw [hhr]))
          have Hvy := Lib.hid (hvy.agree (flat_loc _) (w' := Wr) (fun z _ _ => by rw [hhr]))
          rw [← hsr] at Hky Hvy hobr hb2q
          have cell : ∀ q, Wr.cell? q = Wq.cell? q := fun q => World.cell?_of_block (by rw [hhr])
          rw [← cell] at n0 n1 c9
          have HP0 := Lib.hid (hP0.same (w' := Wr) (fun g _ => by rw [hhr]) (fun g _ => by rw [hhr]))
          have HOr := Lib.hid hOr
          have Hsr := Lib.hid hsr
          have hS0 : Only (fun z => w.heap.size ≤ z) Wr Wr := Only.refl _ _
          have hbS : ∀ w', Only (fun z => w.heap.size ≤ z) Wr w' → w'.cell? ⟨b2, 0, none⟩ = some (.slice ak k2.length ck) ∧ w'.cell? ⟨b2, 1, none⟩ = some (.slice av v2.length cv) := fun w' h => ⟨(World.cell?_of_block (h.block b2 hb2q (by have : b2 < w.heap.size := hb2; omega))).trans n0, (World.cell?_of_block (h.block b2 hb2q (by have : b2 < w.heap.size := hb2; omega))).trans n1⟩
          clear hky hvy hWr hP0 hOr hsr hhr cell c6 c7
          refine wpIn_region_held (S := fun w' => Only (fun z => w.heap.size ≤ z) Wq.drew.drew w') (by kernel_rfl) (by rintro ⟨a, w, h⟩; exact h) (by kernel_rfl) (Only.refl _ _) (fun hHeld => ?_)
          rw [← eWr] at hHeld ⊢
          clear eWr n0 n1
          refine wpAnyH_take (i := 1) (v := .pointer (some ⟨b2, 0, none⟩)) rfl (by kernel_rfl) (by kernel_rfl) (by kernel_rfl) (fun _ _ _ h => h) (Or.inl ⟨by rfl, ?_⟩) hHeld ?_
          · intro w' hSw; go_simp
          try simp only [Act.put, List.getElem_toArray, List.getElem_cons_succ, List.getElem_cons_zero, List.setIfInBounds_toArray, List.set_cons_zero, List.set_cons_succ]
          refine wpAnyH_take (i := 2) (v := .pointer (some ⟨b2, 0, none⟩)) rfl (by kernel_rfl) (by kernel_rfl) (by kernel_rfl) (fun _ _ _ h => h) (Or.inl ⟨by rfl, ?_⟩) hHeld ?_
          · intro w' hSw; go_simp
          try simp only [Act.put, List.getElem_toArray, List.getElem_cons_succ, List.getElem_cons_zero, List.setIfInBounds_toArray, List.set_cons_zero, List.set_cons_succ]
          refine wpAnyH_take (i := 3) (v := .pointer (some ⟨b2, 0, none⟩)) rfl (by kernel_rfl) (by kernel_rfl) (by kernel_rfl) (fun _ _ _ h => h) (Or.inl ⟨by rfl, ?_⟩) hHeld ?_
          · intro w' hSw; go_simp
          try simp only [Act.put, List.getElem_toArray, List.getElem_cons_succ, List.getElem_cons_zero, List.setIfInBounds_toArray, List.set_cons_zero, List.set_cons_succ]
          refine wpAnyH_take (i := 4) (v := .slice ak k2.length ck) rfl (by kernel_rfl) (by kernel_rfl) (by kernel_rfl) (fun _ _ _ h => h) (Or.inl ⟨by rfl, ?_⟩) hHeld ?_
          · intro w' hSw; have kx := (hbS w' hSw).1; go_simp
          try simp only [Act.put, List.getElem_toArray, List.getElem_cons_succ, List.getElem_cons_zero, List.setIfInBounds_toArray, List.set_cons_zero, List.set_cons_succ]
          refine wpAnyH_take (i := 6) (v := .pointer (some ⟨b2, 0, none⟩)) rfl (by kernel_rfl) (by kernel_rfl) (by kernel_rfl) (fun _ _ _ h => h) (Or.inl ⟨by rfl, ?_⟩) hHeld ?_
          · intro w' hSw; go_simp
          try simp only [Act.put, List.getElem_toArray, List.getElem_cons_succ, List.getElem_cons_zero, List.setIfInBounds_toArray, List.set_cons_zero, List.set_cons_succ]
          refine wpAnyH_take (i := 7) (v := .pointer (some ⟨b2, 0, none⟩)) rfl (by kernel_rfl) (by kernel_rfl) (by kernel_rfl) (fun _ _ _ h => h) (Or.inl ⟨by rfl, ?_⟩) hHeld ?_
          · intro w' hSw; go_simp
          try simp only [Act.put, List.getElem_toArray, List.getElem_cons_succ, List.getElem_cons_zero, List.setIfInBounds_toArray, List.set_cons_zero, List.set_cons_succ]
          refine wpAnyH_take (i := 8) (v := .pointer (some ⟨b2, 1, none⟩)) rfl (by kernel_rfl) (by kernel_rfl) (by kernel_rfl) (fun _ _ _ h => h) (Or.inl ⟨by rfl, ?_⟩) hHeld ?_
          · intro w' hSw; go_simp
          try simp only [Act.put, List.getElem_toArray, List.getElem_cons_succ, List.getElem_cons_zero, List.setIfInBounds_toArray, List.set_cons_zero, List.set_cons_succ]
          refine wpAnyH_take (i := 9) (v := .slice av v2.length cv) rfl (by kernel_rfl) (by kernel_rfl) (by kernel_rfl) (fun _ _ _ h => h) (Or.inl ⟨by rfl, ?_⟩) hHeld ?_
          · intro w' hSw; have kx := (hbS w' hSw).2; go_simp
          try simp only [Act.put, List.getElem_toArray, List.getElem_cons_succ, List.getElem_cons_zero, List.setIfInBounds_toArray, List.set_cons_zero, List.set_cons_succ]
          refine wpAnyH_ready (rs := [0, 5]) (by kernel_rfl) (by simp) ?_
          refine allVal (v := .slice po d2.length co) (w' := Wr) rfl (by kernel_rfl) ?_ hS0 ?_ ?_
          · go_simp
          · try simp only [Act.put, List.getElem_toArray, List.getElem_cons_succ, List.getElem_cons_zero, List.setIfInBounds_toArray, List.set_cons_zero, List.set_cons_succ]
            refine wpAnyH_ready (rs := [5]) (by kernel_rfl) (by simp) ?_
            refine allCall (f := 34) (args := #[.slice ak k2.length ck]) rfl (by kernel_rfl) ?_ ?_ AllReadyH.nil
            · kernel_rfl
            · refine Clone_any Wr.heap.size 0 Wr.heap.size k2 _ Wr Hky.out (Nat.le_refl _) (Nat.le_refl _) hln.1 _ (fun w1 k1 hB1 ho1 => ?_)
              have hS1 : Only (fun z => w.heap.size ≤ z) Wr w1 := Below.only hB1
              have c91 := (World.cell?_of_block (hB1.block _ hobr)).trans c9
              obtain ⟨ak1, ck1, rfl, -, -, -⟩ := (OwnB.bytes ho1).form
              refine ⟨_, rfl, hS1, ?_⟩
              try simp only [Act.put, List.getElem_toArray, List.getElem_cons_succ, List.getElem_cons_zero, List.setIfInBounds_toArray, List.set_cons_zero, List.set_cons_succ]
              refine wpAnyH_ready (rs := [10]) (by kernel_rfl) (by simp) ?_
              refine allCall (f := 34) (args := #[.slice av v2.length cv]) rfl (by kernel_rfl) ?_ ?_ AllReadyH.nil
              · kernel_rfl
              · refine Clone_any w1.heap.size 0 Wr.heap.size v2 _ w1 (Hvy.out.below (flat_loc _) hB1 (Nat.le_refl _)) (Nat.le_refl _) hB1.size hln.2 _ (fun w2 v1 hB2 ho2 => ?_)
                have hB02 := hB1.trans (hB2.mono hB1.size)
                have hS2 : Only (fun z => w.heap.size ≤ z) Wr w2 := Below.only hB02
                have c92 := (World.cell?_of_block (hB02.block _ hobr)).trans c9
                obtain ⟨av1, cv1, rfl, -, -, -⟩ := (OwnB.bytes ho2).form
                refine ⟨_, rfl, hS2, ?_⟩
                have hHeld := hS2
                try simp only [Act.put, List.getElem_toArray, List.getElem_cons_succ, List.getElem_cons_zero, List.setIfInBounds_toArray, List.set_cons_zero, List.set_cons_succ]
                refine wpAnyH_take (i := 11) (v := .agg #[.slice ak1 k2.length ck1, .slice av1 v2.length cv1]) rfl (by kernel_rfl) (by kernel_rfl) (by kernel_rfl) (fun _ _ _ h => h) (Or.inl ⟨by rfl, ?_⟩) hHeld ?_
                · intro w' hSw; go_simp
                try simp only [Act.put, List.getElem_toArray, List.getElem_cons_succ, List.getElem_cons_zero, List.setIfInBounds_toArray, List.set_cons_zero, List.set_cons_succ]
                refine wpAnyH_ready (rs := [12]) (by kernel_rfl) (by simp) ?_
                have hS3 : Only (fun z => w.heap.size ≤ z) Wr (w2.alloc (.cells #[.slice ak1 k2.length ck1, .slice av1 v2.length cv1] 43)) := hS2.trans (Only.alloc w2 _)
                have hB03 : Below Wr.heap.size Wr (w2.alloc (.cells #[.slice ak1 k2.length ck1, .slice av1 v2.length cv1] 43)) := hB02.trans (((Below.refl _ _).alloc (Nat.le_refl _) _).mono hB02.size)
                have c93 := (World.cell?_of_block (hB03.block _ hobr)).trans c9
                refine allVal rfl (by kernel_rfl) (execBuild (run_bsP ak1 av1 k2.length v2.length ck1 cv1 w2) rfl (by kernel_rfl)) hS3 ?_ AllReadyH.nil
                try simp only [Act.put, List.getElem_toArray, List.getElem_cons_succ, List.getElem_cons_zero, List.setIfInBounds_toArray, List.set_cons_zero, List.set_cons_succ]
                have hk9 := Own.kept ho1 hB2
                have hv9 := OwnB.mono ho2 hB1.size
                have hkv9 : ∀ g, Value.ownBlock (.slice ak1 k2.length ck1) = some g → Value.ownBlock (.slice av1 v2.length cv1) ≠ some g := fun g e1 e2 => by
                  have h1 := (ho1.lt g e1).2
                  have h2 := (ho2.lt g e2).1
                  omega
                have hsr := Hsr.out
                have hs9 := Hs9.out
                have hLr : L + 1 ≤ Wr.heap.size := by omega
                have hadd := HP0.out.add (x := (k2, v2)) (w2 := w2.alloc (.cells #[.slice ak1 k2.length ck1, .slice av1 v2.length cv1] 43)) hLr hB02 hk9 hv9 hkv9 rfl (by omega) (n := w2.heap.size) rfl
                obtain ⟨pp, pm, pc, w5, hrun, hO5, hs5, hP5, hm5⟩ := hadd
                have hlt5 := HP0.out.lt.1
                have hno : ∀ z, z ≤ L → ¬ Value.ownBlock (.slice po d2.length co) = some z := fun z hz e => by have := (hlt5 z e).1; omega
                have hVr := HV3.out.rec2 (W3 := Wr) (HOr.out.mono (fun _ _ e => e.elim)) ((HOr.out.block L (by omega) (fun e => e)).trans HV3.out.rcd)
                have hT := hVr.told (o2 := .loop (RL .ready none)) (by omega) hO5 hP5 hm5 (blks_add hk9 hv9 ps)
                have c95 := (World.cell?_of_block (hO5.block _ hobr (hno (w.heap.size + 2) (by omega)))).trans c9
                have f95 : w5.frozen? ⟨w.heap.size + 2, 0, none⟩ = false := (hO5.blk hVr.out (hno (w.heap.size + 2) (by omega))).free 0
                have hS5 : Only (fun z => w.heap.size ≤ z) Wr w5 := hO5.mono (fun z _ e => by have := (hlt5 z e).1; omega)
                have hS6 : Only (fun z => w.heap.size ≤ z) Wr (w5.setCell ⟨w.heap.size + 2, 0, none⟩ (.slice pp pm pc)) := hS5.trans (Only.setCell (A := fun z => w.heap.size ≤ z) w5 (p := ⟨w.heap.size + 2, 0, none⟩) (by show w.heap.size ≤ w.heap.size + 2; omega) _)
                have hl6 : (w5.setCell ⟨w.heap.size + 2, 0, none⟩ (.slice pp pm pc)).heap[L]? = some (.loop (RL .busy none)) := (Below.heap_setCell _ _ _ _ (by show L ≠ w.heap.size + 2; omega)).trans ((hO5.block L (by omega) (hno L (Nat.le_refl _))).trans ((HOr.out.block L (by omega) (fun e => e)).trans Hl3.out))
                have hfin : Told (RgJ w.heap.size L (w.heap.size + 2) [(w.heap.size, .slice at' to.length ct, 30), (w.heap.size + 1, .int .i64 most, 3)] to most (.loop (RL .ready none))) (RgZ w.heap.size L (w.heap.size + 2) [(w.heap.size, .slice at' to.length ct, 30), (w.heap.size + 1, .int .i64 most, 3)] to most (t.from low) (.loop (RL .done (some (.exit 0))))) C2 d2 (k2, v2) Wy (.returned (.bool true)) ((w5.setCell ⟨w.heap.size + 2, 0, none⟩ (.slice pp pm pc)).putObj L (.loop (RL .ready none))) :=
                  ⟨_, ((Ho3.out.mono (fun z _ e => e ▸ HV3.out.cL)).trans (HOr.out.mono (fun _ _ e => e.elim))).trans hT.2, ⟨fun z e => .inl e, fun z e => e.imp id (fun h => by have := h.1; omega)⟩, .inl ⟨rfl, ⟨_, _, hT.1⟩, fun x hx => (List.mem_append.1 hx).elim (Hwi.out x) (fun h => by rw [List.mem_singleton.1 h]; exact hwx), .inl (by rw [List.length_append, List.length_singleton]; omega)⟩⟩
                have Hfin := Lib.hid hfin
                have Hl6 := Lib.hid hl6
                clear hfin hl6 hT hVr hno hlt5 hk9 hv9 hkv9 hP5 hm5 hsr hs9 hs5
                refine wpAnyH_ready (rs := [13]) (by kernel_rfl) (by simp) ?_
                refine allVal rfl (by kernel_rfl) (execApp hrun rfl (by kernel_rfl) (by kernel_rfl)) hS5 ?_ AllReadyH.nil
                try simp only [Act.put, List.getElem_toArray, List.getElem_cons_succ, List.getElem_cons_zero, List.setIfInBounds_toArray, List.set_cons_zero, List.set_cons_succ]
                refine wpAnyH_ready (rs := [14]) (by kernel_rfl) (by simp) ?_
                refine allSkip (w' := (w5.setCell ⟨w.heap.size + 2, 0, none⟩ (.slice pp pm pc))) rfl (by kernel_rfl) ?_ hS6 ?_ AllReadyH.nil
                · go_simp
                try simp only [Act.put, List.getElem_toArray, List.getElem_cons_succ, List.getElem_cons_zero, List.setIfInBounds_toArray, List.set_cons_zero, List.set_cons_succ]
                refine wpAnyH_done (by kernel_rfl) ?_ _
                gi_wp2_with fail
                exact roundPost_normalR HRL.out Hl6.out Hfin.out
          · refine allCall (f := 34) (args := #[.slice ak k2.length ck]) rfl (by kernel_rfl) ?_ ?_ AllReadyH.nil
            · kernel_rfl
            · refine Clone_any Wr.heap.size 0 Wr.heap.size k2 _ Wr Hky.out (Nat.le_refl _) (Nat.le_refl _) hln.1 _ (fun w1 k1 hB1 ho1 => ?_)
              have hS1 : Only (fun z => w.heap.size ≤ z) Wr w1 := Below.only hB1
              have c91 := (World.cell?_of_block (hB1.block _ hobr)).trans c9
              obtain ⟨ak1, ck1, rfl, -, -, -⟩ := (OwnB.bytes ho1).form
              refine ⟨_, rfl, hS1, ?_⟩
              try simp only [Act.put, List.getElem_toArray, List.getElem_cons_succ, List.getElem_cons_zero, List.setIfInBounds_toArray, List.set_cons_zero, List.set_cons_succ]
              refine wpAnyH_ready (rs := [0, 10]) (by kernel_rfl) (by simp) ?_
              refine allVal (v := .slice po d2.length co) (w' := w1) rfl (by kernel_rfl) ?_ hS1 ?_ ?_
              · go_simp
              · try simp only [Act.put, List.getElem_toArray, List.getElem_cons_succ, List.getElem_cons_zero, List.setIfInBounds_toArray, List.set_cons_zero, List.set_cons_succ]
                refine wpAnyH_ready (rs := [10]) (by kernel_rfl) (by simp) ?_
                refine allCall (f := 34) (args := #[.slice av v2.length cv]) rfl (by kernel_rfl) ?_ ?_ AllReadyH.nil
                · kernel_rfl
                · refine Clone_any w1.heap.size 0 Wr.heap.size v2 _ w1 (Hvy.out.below (flat_loc _) hB1 (Nat.le_refl _)) (Nat.le_refl _) hB1.size hln.2 _ (fun w2 v1 hB2 ho2 => ?_)
                  have hB02 := hB1.trans (hB2.mono hB1.size)
                  have hS2 : Only (fun z => w.heap.size ≤ z) Wr w2 := Below.only hB02
                  have c92 := (World.cell?_of_block (hB02.block _ hobr)).trans c9
                  obtain ⟨av1, cv1, rfl, -, -, -⟩ := (OwnB.bytes ho2).form
                  refine ⟨_, rfl, hS2, ?_⟩
                  have hHeld := hS2
                  try simp only [Act.put, List.getElem_toArray, List.getElem_cons_succ, List.getElem_cons_zero, List.setIfInBounds_toArray, List.set_cons_zero, List.set_cons_succ]
                  refine wpAnyH_take (i := 11) (v := .agg #[.slice ak1 k2.length ck1, .slice av1 v2.length cv1]) rfl (by kernel_rfl) (by kernel_rfl) (by kernel_rfl) (fun _ _ _ h => h) (Or.inl ⟨by rfl, ?_⟩) hHeld ?_
                  · intro w' hSw; go_simp
                  try simp only [Act.put, List.getElem_toArray, List.getElem_cons_succ, List.getElem_cons_zero, List.setIfInBounds_toArray, List.set_cons_zero, List.set_cons_succ]
                  refine wpAnyH_ready (rs := [12]) (by kernel_rfl) (by simp) ?_
                  have hS3 : Only (fun z => w.heap.size ≤ z) Wr (w2.alloc (.cells #[.slice ak1 k2.length ck1, .slice av1 v2.length cv1] 43)) := hS2.trans (Only.alloc w2 _)
                  have hB03 : Below Wr.heap.size Wr (w2.alloc (.cells #[.slice ak1 k2.length ck1, .slice av1 v2.length cv1] 43)) := hB02.trans (((Below.refl _ _).alloc (Nat.le_refl _) _).mono hB02.size)
                  have c93 := (World.cell?_of_block (hB03.block _ hobr)).trans c9
                  refine allVal rfl (by kernel_rfl) (execBuild (run_bsP ak1 av1 k2.length v2.length ck1 cv1 w2) rfl (by kernel_rfl)) hS3 ?_ AllReadyH.nil
                  try simp only [Act.put, List.getElem_toArray, List.getElem_cons_succ, List.getElem_cons_zero, List.setIfInBounds_toArray, List.set_cons_zero, List.set_cons_succ]
                  have hk9 := Own.kept ho1 hB2
                  have hv9 := OwnB.mono ho2 hB1.size
                  have hkv9 : ∀ g, Value.ownBlock (.slice ak1 k2.length ck1) = some g → Value.ownBlock (.slice av1 v2.length cv1) ≠ some g := fun g e1 e2 => by
                    have h1 := (ho1.lt g e1).2
                    have h2 := (ho2.lt g e2).1
                    omega
                  have hsr := Hsr.out
                  have hs9 := Hs9.out
                  have hLr : L + 1 ≤ Wr.heap.size := by omega
                  have hadd := HP0.out.add (x := (k2, v2)) (w2 := w2.alloc (.cells #[.slice ak1 k2.length ck1, .slice av1 v2.length cv1] 43)) hLr hB02 hk9 hv9 hkv9 rfl (by omega) (n := w2.heap.size) rfl
                  obtain ⟨pp, pm, pc, w5, hrun, hO5, hs5, hP5, hm5⟩ := hadd
                  have hlt5 := HP0.out.lt.1
                  have hno : ∀ z, z ≤ L → ¬ Value.ownBlock (.slice po d2.length co) = some z := fun z hz e => by have := (hlt5 z e).1; omega
                  have hVr := HV3.out.rec2 (W3 := Wr) (HOr.out.mono (fun _ _ e => e.elim)) ((HOr.out.block L (by omega) (fun e => e)).trans HV3.out.rcd)
                  have hT := hVr.told (o2 := .loop (RL .ready none)) (by omega) hO5 hP5 hm5 (blks_add hk9 hv9 ps)
                  have c95 := (World.cell?_of_block (hO5.block _ hobr (hno (w.heap.size + 2) (by omega)))).trans c9
                  have f95 : w5.frozen? ⟨w.heap.size + 2, 0, none⟩ = false := (hO5.blk hVr.out (hno (w.heap.size + 2) (by omega))).free 0
                  have hS5 : Only (fun z => w.heap.size ≤ z) Wr w5 := hO5.mono (fun z _ e => by have := (hlt5 z e).1; omega)
                  have hS6 : Only (fun z => w.heap.size ≤ z) Wr (w5.setCell ⟨w.heap.size + 2, 0, none⟩ (.slice pp pm pc)) := hS5.trans (Only.setCell (A := fun z => w.heap.size ≤ z) w5 (p := ⟨w.heap.size + 2, 0, none⟩) (by show w.heap.size ≤ w.heap.size + 2; omega) _)
                  have hl6 : (w5.setCell ⟨w.heap.size + 2, 0, none⟩ (.slice pp pm pc)).heap[L]? = some (.loop (RL .busy none)) := (Below.heap_setCell _ _ _ _ (by show L ≠ w.heap.size + 2; omega)).trans ((hO5.block L (by omega) (hno L (Nat.le_refl _))).trans ((HOr.out.block L (by omega) (fun e => e)).trans Hl3.out))
                  have hfin : Told (RgJ w.heap.size L (w.heap.size + 2) [(w.heap.size, .slice at' to.length ct, 30), (w.heap.size + 1, .int .i64 most, 3)] to most (.loop (RL .ready none))) (RgZ w.heap.size L (w.heap.size + 2) [(w.heap.size, .slice at' to.length ct, 30), (w.heap.size + 1, .int .i64 most, 3)] to most (t.from low) (.loop (RL .done (some (.exit 0))))) C2 d2 (k2, v2) Wy (.returned (.bool true)) ((w5.setCell ⟨w.heap.size + 2, 0, none⟩ (.slice pp pm pc)).putObj L (.loop (RL .ready none))) :=
                    ⟨_, ((Ho3.out.mono (fun z _ e => e ▸ HV3.out.cL)).trans (HOr.out.mono (fun _ _ e => e.elim))).trans hT.2, ⟨fun z e => .inl e, fun z e => e.imp id (fun h => by have := h.1; omega)⟩, .inl ⟨rfl, ⟨_, _, hT.1⟩, fun x hx => (List.mem_append.1 hx).elim (Hwi.out x) (fun h => by rw [List.mem_singleton.1 h]; exact hwx), .inl (by rw [List.length_append, List.length_singleton]; omega)⟩⟩
                  have Hfin := Lib.hid hfin
                  have Hl6 := Lib.hid hl6
                  clear hfin hl6 hT hVr hno hlt5 hk9 hv9 hkv9 hP5 hm5 hsr hs9 hs5
                  refine wpAnyH_ready (rs := [13]) (by kernel_rfl) (by simp) ?_
                  refine allVal rfl (by kernel_rfl) (execApp hrun rfl (by kernel_rfl) (by kernel_rfl)) hS5 ?_ AllReadyH.nil
                  try simp only [Act.put, List.getElem_toArray, List.getElem_cons_succ, List.getElem_cons_zero, List.setIfInBounds_toArray, List.set_cons_zero, List.set_cons_succ]
                  refine wpAnyH_ready (rs := [14]) (by kernel_rfl) (by simp) ?_
                  refine allSkip (w' := (w5.setCell ⟨w.heap.size + 2, 0, none⟩ (.slice pp pm pc))) rfl (by kernel_rfl) ?_ hS6 ?_ AllReadyH.nil
                  · go_simp
                  try simp only [Act.put, List.getElem_toArray, List.getElem_cons_succ, List.getElem_cons_zero, List.setIfInBounds_toArray, List.set_cons_zero, List.set_cons_succ]
                  refine wpAnyH_done (by kernel_rfl) ?_ _
                  gi_wp2_with fail
                  exact roundPost_normalR HRL.out Hl6.out Hfin.out
              · refine allCall (f := 34) (args := #[.slice av v2.length cv]) rfl (by kernel_rfl) ?_ ?_ AllReadyH.nil
                · kernel_rfl
                · refine Clone_any w1.heap.size 0 Wr.heap.size v2 _ w1 (Hvy.out.below (flat_loc _) hB1 (Nat.le_refl _)) (Nat.le_refl _) hB1.size hln.2 _ (fun w2 v1 hB2 ho2 => ?_)
                  have hB02 := hB1.trans (hB2.mono hB1.size)
                  have hS2 : Only (fun z => w.heap.size ≤ z) Wr w2 := Below.only hB02
                  have c92 := (World.cell?_of_block (hB02.block _ hobr)).trans c9
                  obtain ⟨av1, cv1, rfl, -, -, -⟩ := (OwnB.bytes ho2).form
                  refine ⟨_, rfl, hS2, ?_⟩
                  have hHeld := hS2
                  try simp only [Act.put, List.getElem_toArray, List.getElem_cons_succ, List.getElem_cons_zero, List.setIfInBounds_toArray, List.set_cons_zero, List.set_cons_succ]
                  refine wpAnyH_take (i := 11) (v := .agg #[.slice ak1 k2.length ck1, .slice av1 v2.length cv1]) rfl (by kernel_rfl) (by kernel_rfl) (by kernel_rfl) (fun _ _ _ h => h) (Or.inl ⟨by rfl, ?_⟩) hHeld ?_
                  · intro w' hSw; go_simp
                  try simp only [Act.put, List.getElem_toArray, List.getElem_cons_succ, List.getElem_cons_zero, List.setIfInBounds_toArray, List.set_cons_zero, List.set_cons_succ]
                  refine wpAnyH_ready (rs := [0, 12]) (by kernel_rfl) (by simp) ?_
                  refine allVal (v := .slice po d2.length co) (w' := w2) rfl (by kernel_rfl) ?_ hS2 ?_ ?_
                  · go_simp
                  · try simp only [Act.put, List.getElem_toArray, List.getElem_cons_succ, List.getElem_cons_zero, List.setIfInBounds_toArray, List.set_cons_zero, List.set_cons_succ]
                    refine wpAnyH_ready (rs := [12]) (by kernel_rfl) (by simp) ?_
                    have hS3 : Only (fun z => w.heap.size ≤ z) Wr (w2.alloc (.cells #[.slice ak1 k2.length ck1, .slice av1 v2.length cv1] 43)) := hS2.trans (Only.alloc w2 _)
                    have hB03 : Below Wr.heap.size Wr (w2.alloc (.cells #[.slice ak1 k2.length ck1, .slice av1 v2.length cv1] 43)) := hB02.trans (((Below.refl _ _).alloc (Nat.le_refl _) _).mono hB02.size)
                    have c93 := (World.cell?_of_block (hB03.block _ hobr)).trans c9
                    refine allVal rfl (by kernel_rfl) (execBuild (run_bsP ak1 av1 k2.length v2.length ck1 cv1 w2) rfl (by kernel_rfl)) hS3 ?_ AllReadyH.nil
                    try simp only [Act.put, List.getElem_toArray, List.getElem_cons_succ, List.getElem_cons_zero, List.setIfInBounds_toArray, List.set_cons_zero, List.set_cons_succ]
                    have hk9 := Own.kept ho1 hB2
                    have hv9 := OwnB.mono ho2 hB1.size
                    have hkv9 : ∀ g, Value.ownBlock (.slice ak1 k2.length ck1) = some g → Value.ownBlock (.slice av1 v2.length cv1) ≠ some g := fun g e1 e2 => by
                      have h1 := (ho1.lt g e1).2
                      have h2 := (ho2.lt g e2).1
                      omega
                    have hsr := Hsr.out
                    have hs9 := Hs9.out
                    have hLr : L + 1 ≤ Wr.heap.size := by omega
                    have hadd := HP0.out.add (x := (k2, v2)) (w2 := w2.alloc (.cells #[.slice ak1 k2.length ck1, .slice av1 v2.length cv1] 43)) hLr hB02 hk9 hv9 hkv9 rfl (by omega) (n := w2.heap.size) rfl
                    obtain ⟨pp, pm, pc, w5, hrun, hO5, hs5, hP5, hm5⟩ := hadd
                    have hlt5 := HP0.out.lt.1
                    have hno : ∀ z, z ≤ L → ¬ Value.ownBlock (.slice po d2.length co) = some z := fun z hz e => by have := (hlt5 z e).1; omega
                    have hVr := HV3.out.rec2 (W3 := Wr) (HOr.out.mono (fun _ _ e => e.elim)) ((HOr.out.block L (by omega) (fun e => e)).trans HV3.out.rcd)
                    have hT := hVr.told (o2 := .loop (RL .ready none)) (by omega) hO5 hP5 hm5 (blks_add hk9 hv9 ps)
                    have c95 := (World.cell?_of_block (hO5.block _ hobr (hno (w.heap.size + 2) (by omega)))).trans c9
                    have f95 : w5.frozen? ⟨w.heap.size + 2, 0, none⟩ = false := (hO5.blk hVr.out (hno (w.heap.size + 2) (by omega))).free 0
                    have hS5 : Only (fun z => w.heap.size ≤ z) Wr w5 := hO5.mono (fun z _ e => by have := (hlt5 z e).1; omega)
                    have hS6 : Only (fun z => w.heap.size ≤ z) Wr (w5.setCell ⟨w.heap.size + 2, 0, none⟩ (.slice pp pm pc)) := hS5.trans (Only.setCell (A := fun z => w.heap.size ≤ z) w5 (p := ⟨w.heap.size + 2, 0, none⟩) (by show w.heap.size ≤ w.heap.size + 2; omega) _)
                    have hl6 : (w5.setCell ⟨w.heap.size + 2, 0, none⟩ (.slice pp pm pc)).heap[L]? = some (.loop (RL .busy none)) := (Below.heap_setCell _ _ _ _ (by show L ≠ w.heap.size + 2; omega)).trans ((hO5.block L (by omega) (hno L (Nat.le_refl _))).trans ((HOr.out.block L (by omega) (fun e => e)).trans Hl3.out))
                    have hfin : Told (RgJ w.heap.size L (w.heap.size + 2) [(w.heap.size, .slice at' to.length ct, 30), (w.heap.size + 1, .int .i64 most, 3)] to most (.loop (RL .ready none))) (RgZ w.heap.size L (w.heap.size + 2) [(w.heap.size, .slice at' to.length ct, 30), (w.heap.size + 1, .int .i64 most, 3)] to most (t.from low) (.loop (RL .done (some (.exit 0))))) C2 d2 (k2, v2) Wy (.returned (.bool true)) ((w5.setCell ⟨w.heap.size + 2, 0, none⟩ (.slice pp pm pc)).putObj L (.loop (RL .ready none))) :=
                      ⟨_, ((Ho3.out.mono (fun z _ e => e ▸ HV3.out.cL)).trans (HOr.out.mono (fun _ _ e => e.elim))).trans hT.2, ⟨fun z e => .inl e, fun z e => e.imp id (fun h => by have := h.1; omega)⟩, .inl ⟨rfl, ⟨_, _, hT.1⟩, fun x hx => (List.mem_append.1 hx).elim (Hwi.out x) (fun h => by rw [List.mem_singleton.1 h]; exact hwx), .inl (by rw [List.length_append, List.length_singleton]; omega)⟩⟩
                    have Hfin := Lib.hid hfin
                    have Hl6 := Lib.hid hl6
                    clear hfin hl6 hT hVr hno hlt5 hk9 hv9 hkv9 hP5 hm5 hsr hs9 hs5
                    refine wpAnyH_ready (rs := [13]) (by kernel_rfl) (by simp) ?_
                    refine allVal rfl (by kernel_rfl) (execApp hrun rfl (by kernel_rfl) (by kernel_rfl)) hS5 ?_ AllReadyH.nil
                    try simp only [Act.put, List.getElem_toArray, List.getElem_cons_succ, List.getElem_cons_zero, List.setIfInBounds_toArray, List.set_cons_zero, List.set_cons_succ]
                    refine wpAnyH_ready (rs := [14]) (by kernel_rfl) (by simp) ?_
                    refine allSkip (w' := (w5.setCell ⟨w.heap.size + 2, 0, none⟩ (.slice pp pm pc))) rfl (by kernel_rfl) ?_ hS6 ?_ AllReadyH.nil
                    · go_simp
                    try simp only [Act.put, List.getElem_toArray, List.getElem_cons_succ, List.getElem_cons_zero, List.setIfInBounds_toArray, List.set_cons_zero, List.set_cons_succ]
                    refine wpAnyH_done (by kernel_rfl) ?_ _
                    gi_wp2_with fail
                    exact roundPost_normalR HRL.out Hl6.out Hfin.out
                  · have hS3 : Only (fun z => w.heap.size ≤ z) Wr (w2.alloc (.cells #[.slice ak1 k2.length ck1, .slice av1 v2.length cv1] 43)) := hS2.trans (Only.alloc w2 _)
                    have hB03 : Below Wr.heap.size Wr (w2.alloc (.cells #[.slice ak1 k2.length ck1, .slice av1 v2.length cv1] 43)) := hB02.trans (((Below.refl _ _).alloc (Nat.le_refl _) _).mono hB02.size)
                    have c93 := (World.cell?_of_block (hB03.block _ hobr)).trans c9
                    refine allVal rfl (by kernel_rfl) (execBuild (run_bsP ak1 av1 k2.length v2.length ck1 cv1 w2) rfl (by kernel_rfl)) hS3 ?_ AllReadyH.nil
                    try simp only [Act.put, List.getElem_toArray, List.getElem_cons_succ, List.getElem_cons_zero, List.setIfInBounds_toArray, List.set_cons_zero, List.set_cons_succ]
                    refine wpAnyH_ready (rs := [0]) (by kernel_rfl) (by simp) ?_
                    refine allVal (v := .slice po d2.length co) (w' := w2.alloc (.cells #[.slice ak1 k2.length ck1, .slice av1 v2.length cv1] 43)) rfl (by kernel_rfl) ?_ hS3 ?_ AllReadyH.nil
                    · go_simp
                    try simp only [Act.put, List.getElem_toArray, List.getElem_cons_succ, List.getElem_cons_zero, List.setIfInBounds_toArray, List.set_cons_zero, List.set_cons_succ]
                    have hk9 := Own.kept ho1 hB2
                    have hv9 := OwnB.mono ho2 hB1.size
                    have hkv9 : ∀ g, Value.ownBlock (.slice ak1 k2.length ck1) = some g → Value.ownBlock (.slice av1 v2.length cv1) ≠ some g := fun g e1 e2 => by
                      have h1 := (ho1.lt g e1).2
                      have h2 := (ho2.lt g e2).1
                      omega
                    have hsr := Hsr.out
                    have hs9 := Hs9.out
                    have hLr : L + 1 ≤ Wr.heap.size := by omega
                    have hadd := HP0.out.add (x := (k2, v2)) (w2 := w2.alloc (.cells #[.slice ak1 k2.length ck1, .slice av1 v2.length cv1] 43)) hLr hB02 hk9 hv9 hkv9 rfl (by omega) (n := w2.heap.size) rfl
                    obtain ⟨pp, pm, pc, w5, hrun, hO5, hs5, hP5, hm5⟩ := hadd
                    have hlt5 := HP0.out.lt.1
                    have hno : ∀ z, z ≤ L → ¬ Value.ownBlock (.slice po d2.length co) = some z := fun z hz e => by have := (hlt5 z e).1; omega
                    have hVr := HV3.out.rec2 (W3 := Wr) (HOr.out.mono (fun _ _ e => e.elim)) ((HOr.out.block L (by omega) (fun e => e)).trans HV3.out.rcd)
                    have hT := hVr.told (o2 := .loop (RL .ready none)) (by omega) hO5 hP5 hm5 (blks_add hk9 hv9 ps)
                    have c95 := (World.cell?_of_block (hO5.block _ hobr (hno (w.heap.size + 2) (by omega)))).trans c9
                    have f95 : w5.frozen? ⟨w.heap.size + 2, 0, none⟩ = false := (hO5.blk hVr.out (hno (w.heap.size + 2) (by omega))).free 0
                    have hS5 : Only (fun z => w.heap.size ≤ z) Wr w5 := hO5.mono (fun z _ e => by have := (hlt5 z e).1; omega)
                    have hS6 : Only (fun z => w.heap.size ≤ z) Wr (w5.setCell ⟨w.heap.size + 2, 0, none⟩ (.slice pp pm pc)) := hS5.trans (Only.setCell (A := fun z => w.heap.size ≤ z) w5 (p := ⟨w.heap.size + 2, 0, none⟩) (by show w.heap.size ≤ w.heap.size + 2; omega) _)
                    have hl6 : (w5.setCell ⟨w.heap.size + 2, 0, none⟩ (.slice pp pm pc)).heap[L]? = some (.loop (RL .busy none)) := (Below.heap_setCell _ _ _ _ (by show L ≠ w.heap.size + 2; omega)).trans ((hO5.block L (by omega) (hno L (Nat.le_refl _))).trans ((HOr.out.block L (by omega) (fun e => e)).trans Hl3.out))
                    have hfin : Told (RgJ w.heap.size L (w.heap.size + 2) [(w.heap.size, .slice at' to.length ct, 30), (w.heap.size + 1, .int .i64 most, 3)] to most (.loop (RL .ready none))) (RgZ w.heap.size L (w.heap.size + 2) [(w.heap.size, .slice at' to.length ct, 30), (w.heap.size + 1, .int .i64 most, 3)] to most (t.from low) (.loop (RL .done (some (.exit 0))))) C2 d2 (k2, v2) Wy (.returned (.bool true)) ((w5.setCell ⟨w.heap.size + 2, 0, none⟩ (.slice pp pm pc)).putObj L (.loop (RL .ready none))) :=
                      ⟨_, ((Ho3.out.mono (fun z _ e => e ▸ HV3.out.cL)).trans (HOr.out.mono (fun _ _ e => e.elim))).trans hT.2, ⟨fun z e => .inl e, fun z e => e.imp id (fun h => by have := h.1; omega)⟩, .inl ⟨rfl, ⟨_, _, hT.1⟩, fun x hx => (List.mem_append.1 hx).elim (Hwi.out x) (fun h => by rw [List.mem_singleton.1 h]; exact hwx), .inl (by rw [List.length_append, List.length_singleton]; omega)⟩⟩
                    have Hfin := Lib.hid hfin
                    have Hl6 := Lib.hid hl6
                    clear hfin hl6 hT hVr hno hlt5 hk9 hv9 hkv9 hP5 hm5 hsr hs9 hs5
                    refine wpAnyH_ready (rs := [13]) (by kernel_rfl) (by simp) ?_
                    refine allVal rfl (by kernel_rfl) (execApp hrun rfl (by kernel_rfl) (by kernel_rfl)) hS5 ?_ AllReadyH.nil
                    try simp only [Act.put, List.getElem_toArray, List.getElem_cons_succ, List.getElem_cons_zero, List.setIfInBounds_toArray, List.set_cons_zero, List.set_cons_succ]
                    refine wpAnyH_ready (rs := [14]) (by kernel_rfl) (by simp) ?_
                    refine allSkip (w' := (w5.setCell ⟨w.heap.size + 2, 0, none⟩ (.slice pp pm pc))) rfl (by kernel_rfl) ?_ hS6 ?_ AllReadyH.nil
                    · go_simp
                    try simp only [Act.put, List.getElem_toArray, List.getElem_cons_succ, List.getElem_cons_zero, List.setIfInBounds_toArray, List.set_cons_zero, List.set_cons_succ]
                    refine wpAnyH_done (by kernel_rfl) ?_ _
                    gi_wp2_with fail
                    exact roundPost_normalR HRL.out Hl6.out Hfin.out
        · have hz : 0 < to.length := List.length_pos_iff.2 hE
          refine wpIn_region_held (S := fun w' => w' = Wq.drew) (by kernel_rfl) (by rintro ⟨a, w, h⟩; exact h) (by kernel_rfl) rfl (fun hHeld => ?_)
          refine wpAnyH_take (i := 0) (v := .slice po d2.length co) rfl (by kernel_rfl) (by kernel_rfl) (by kernel_rfl) (fun _ _ _ h => h) (Or.inl ⟨by rfl, ?_⟩) hHeld ?_
          · intro w' hSw; subst hSw; go_simp
          try simp only [Act.put, List.getElem_toArray, List.getElem_cons_succ, List.getElem_cons_zero, List.setIfInBounds_toArray, List.set_cons_zero, List.set_cons_succ]
          refine wpAnyH_take (i := 1) (v := .int .i64 d2.length) rfl (by kernel_rfl) (by kernel_rfl) (by kernel_rfl) (fun _ _ _ h => h) (Or.inl ⟨by rfl, ?_⟩) hHeld ?_
          · intro w' hSw; subst hSw; go_simp
          try simp only [Act.put, List.getElem_toArray, List.getElem_cons_succ, List.getElem_cons_zero, List.setIfInBounds_toArray, List.set_cons_zero, List.set_cons_succ]
          refine wpAnyH_take (i := 2) (v := .int .i64 most) rfl (by kernel_rfl) (by kernel_rfl) (by kernel_rfl) (fun _ _ _ h => h) (Or.inl ⟨by rfl, ?_⟩) hHeld ?_
          · intro w' hSw; subst hSw; go_simp
          try simp only [Act.put, List.getElem_toArray, List.getElem_cons_succ, List.getElem_cons_zero, List.setIfInBounds_toArray, List.set_cons_zero, List.set_cons_succ]
          refine wpAnyH_take (i := 3) (v := .bool false) rfl (by kernel_rfl) (by kernel_rfl) (by kernel_rfl) (fun _ _ _ h => h) (Or.inl ⟨by rfl, ?_⟩) hHeld ?_
          · intro w' hSw; subst hSw; go_simp
          try simp only [Act.put, List.getElem_toArray, List.getElem_cons_succ, List.getElem_cons_zero, List.setIfInBounds_toArray, List.set_cons_zero, List.set_cons_succ]
          refine wpAnyH_take (i := 4) (v := .bool false) rfl (by kernel_rfl) (by kernel_rfl) (by kernel_rfl) (fun _ _ _ h => h) (Or.inl ⟨by rfl, ?_⟩) hHeld ?_
          · intro w' hSw; subst hSw; go_simp
          try simp only [Act.put, List.getElem_toArray, List.getElem_cons_succ, List.getElem_cons_zero, List.setIfInBounds_toArray, List.set_cons_zero, List.set_cons_succ]
          refine wpAnyH_take (i := 5) (v := .slice at' to.length ct) rfl (by kernel_rfl) (by kernel_rfl) (by kernel_rfl) (fun _ _ _ h => h) (Or.inl ⟨by rfl, ?_⟩) hHeld ?_
          · intro w' hSw; subst hSw; go_simp
          try simp only [Act.put, List.getElem_toArray, List.getElem_cons_succ, List.getElem_cons_zero, List.setIfInBounds_toArray, List.set_cons_zero, List.set_cons_succ]
          refine wpAnyH_take (i := 6) (v := .int .i64 to.length) rfl (by kernel_rfl) (by kernel_rfl) (by kernel_rfl) (fun _ _ _ h => h) (Or.inl ⟨by rfl, ?_⟩) hHeld ?_
          · intro w' hSw; subst hSw; go_simp
          try simp only [Act.put, List.getElem_toArray, List.getElem_cons_succ, List.getElem_cons_zero, List.setIfInBounds_toArray, List.set_cons_zero, List.set_cons_succ]
          refine wpAnyH_take (i := 7) (v := .bool true) rfl (by kernel_rfl) (by kernel_rfl) (by kernel_rfl) (fun _ _ _ h => h) (Or.inl ⟨by rfl, ?_⟩) hHeld ?_
          · intro w' hSw; subst hSw; go_simp
          try simp only [Act.put, List.getElem_toArray, List.getElem_cons_succ, List.getElem_cons_zero, List.setIfInBounds_toArray, List.set_cons_zero, List.set_cons_succ]
          refine wpAnyH_take (i := 8) (v := .bool true) rfl (by kernel_rfl) (by kernel_rfl) (by kernel_rfl) (fun _ _ _ h => h) (Or.inl ⟨by rfl, ?_⟩) hHeld ?_
          · intro w' hSw; subst hSw; go_simp
          try simp only [Act.put, List.getElem_toArray, List.getElem_cons_succ, List.getElem_cons_zero, List.setIfInBounds_toArray, List.set_cons_zero, List.set_cons_succ]
          refine wpAnyH_take (i := 9) (v := .pointer (some ⟨b2, 0, none⟩)) rfl (by kernel_rfl) (by kernel_rfl) (by kernel_rfl) (fun _ _ _ h => h) (Or.inl ⟨by rfl, ?_⟩) hHeld ?_
          · intro w' hSw; subst hSw; go_simp
          try simp only [Act.put, List.getElem_toArray, List.getElem_cons_succ, List.getElem_cons_zero, List.setIfInBounds_toArray, List.set_cons_zero, List.set_cons_succ]
          refine wpAnyH_take (i := 10) (v := .pointer (some ⟨b2, 0, none⟩)) rfl (by kernel_rfl) (by kernel_rfl) (by kernel_rfl) (fun _ _ _ h => h) (Or.inl ⟨by rfl, ?_⟩) hHeld ?_
          · intro w' hSw; subst hSw; go_simp
          try simp only [Act.put, List.getElem_toArray, List.getElem_cons_succ, List.getElem_cons_zero, List.setIfInBounds_toArray, List.set_cons_zero, List.set_cons_succ]
          refine wpAnyH_take (i := 11) (v := .pointer (some ⟨b2, 0, none⟩)) rfl (by kernel_rfl) (by kernel_rfl) (by kernel_rfl) (fun _ _ _ h => h) (Or.inl ⟨by rfl, ?_⟩) hHeld ?_
          · intro w' hSw; subst hSw; go_simp
          try simp only [Act.put, List.getElem_toArray, List.getElem_cons_succ, List.getElem_cons_zero, List.setIfInBounds_toArray, List.set_cons_zero, List.set_cons_succ]
          refine wpAnyH_take (i := 12) (v := .slice ak k2.length ck) rfl (by kernel_rfl) (by kernel_rfl) (by kernel_rfl) (fun _ _ _ h => h) (Or.inl ⟨by rfl, ?_⟩) hHeld ?_
          · intro w' hSw; subst hSw; go_simp
          try simp only [Act.put, List.getElem_toArray, List.getElem_cons_succ, List.getElem_cons_zero, List.setIfInBounds_toArray, List.set_cons_zero, List.set_cons_succ]
          refine wpAnyH_take (i := 13) (v := .slice at' to.length ct) rfl (by kernel_rfl) (by kernel_rfl) (by kernel_rfl) (fun _ _ _ h => h) (Or.inl ⟨by rfl, ?_⟩) hHeld ?_
          · intro w' hSw; subst hSw; go_simp
          try simp only [Act.put, List.getElem_toArray, List.getElem_cons_succ, List.getElem_cons_zero, List.setIfInBounds_toArray, List.set_cons_zero, List.set_cons_succ]
          refine wpAnyH_ready (rs := [14]) (by kernel_rfl) (by simp) ?_
          refine allCall (f := 36) (args := #[.slice ak k2.length ck, .slice at' to.length ct]) rfl (by kernel_rfl) ?_ ?_ AllReadyH.nil
          · kernel_rfl
          · obtain ⟨x1, -, hx1⟩ := By.on Hk3.out (w' := Wq.drew) (fun _ _ => rfl) (fun _ h => h)
            have hx2 := Sl.agree Hto3.out (flat_loc _) (w' := Wq.drew) (fun _ _ _ => rfl)
            refine bytes_Compare Wq.drew hx1 hx2 _ ?_
            refine ⟨_, rfl, rfl, ?_⟩
            clear hx1 hx2
            try simp only [Act.put, List.getElem_toArray, List.getElem_cons_succ, List.getElem_cons_zero, List.setIfInBounds_toArray, List.set_cons_zero, List.set_cons_succ]
            have hcc : Lib.compareBytes k2 to = cmpB k2 to := rfl
            rw [hcc]
            clear hcc
            by_cases hcmp : cmpB k2 to < 0
            · have hwx : Within to (k2, v2) := .inr hcmp
              have hge : ¬ (0 ≤ cmpB k2 to) := by omega
              generalize cmpB k2 to = c at *
              refine wpAnyH_take (i := 15) (v := .bool false) rfl (by kernel_rfl) (by kernel_rfl) (by kernel_rfl) (fun _ _ _ h => h) (Or.inl ⟨by rfl, ?_⟩) hHeld ?_
              · intro w' hSw; subst hSw; go_simp
              try simp only [Act.put, List.getElem_toArray, List.getElem_cons_succ, List.getElem_cons_zero, List.setIfInBounds_toArray, List.set_cons_zero, List.set_cons_succ]
              refine wpAnyH_take (i := 16) (v := .bool false) rfl (by kernel_rfl) (by kernel_rfl) (by kernel_rfl) (fun _ _ _ h => h) (Or.inl ⟨by rfl, ?_⟩) hHeld ?_
              · intro w' hSw; subst hSw; go_simp
              try simp only [Act.put, List.getElem_toArray, List.getElem_cons_succ, List.getElem_cons_zero, List.setIfInBounds_toArray, List.set_cons_zero, List.set_cons_succ]
              refine wpAnyH_take (i := 17) (v := .bool false) rfl (by kernel_rfl) (by kernel_rfl) (by kernel_rfl) (fun _ _ _ h => h) (Or.inl ⟨by rfl, ?_⟩) hHeld ?_
              · intro w' hSw; subst hSw; go_simp
              try simp only [Act.put, List.getElem_toArray, List.getElem_cons_succ, List.getElem_cons_zero, List.setIfInBounds_toArray, List.set_cons_zero, List.set_cons_succ]
              refine wpAnyH_done (by kernel_rfl) ?_ _
              gi_wp2_with fail
              have hWr : Wq.drew.drew.heap.size = Wq.heap.size := rfl
              have hky := By.bytes Hk3.out (hi := Wq.heap.size) (fun z hz => by have := Hs9.out; have : z < w.heap.size := hz; omega)
              have hvy := By.bytes Hv3.out (hi := Wq.heap.size) (fun z hz => by have := Hs9.out; have : z < w.heap.size := hz; omega)
              have hobr : w.heap.size + 2 < Wq.heap.size := by have := Hs9.out; omega
              have hb2q : b2 < Wq.heap.size := by have := Hs9.out; have : b2 < w.heap.size := hb2; omega
              have hP0 := HV3.out.prs
              obtain ⟨Wr, eWr⟩ : ∃ Wr, Wr = Wq.drew.drew := ⟨_, rfl⟩
              have hOr : Only (fun _ => False) Wq Wr := by rw [eWr]; exact (Only.drew Wq).trans (Only.drew _)
              have hsr : Wr.heap.size = Wq.heap.size := by rw [eWr]; rfl
              have hhr : Wr.heap = Wq.heap := by rw [eWr]; rfl
              have Hky := Lib.hid (hky.agree (flat_loc _) (w' := Wr) (fun z _ _ => by rw [hhr]))
              have Hvy := Lib.hid (hvy.agree (flat_loc _) (w' := Wr) (fun z _ _ => by rw [hhr]))
              rw [← hsr] at Hky Hvy hobr hb2q
              have cell : ∀ q, Wr.cell? q = Wq.cell? q := fun q => World.cell?_of_block (by rw [hhr])
              rw [← cell] at n0 n1 c9
              have HP0 := Lib.hid (hP0.same (w' := Wr) (fun g _ => by rw [hhr]) (fun g _ => by rw [hhr]))
              have HOr := Lib.hid hOr
              have Hsr := Lib.hid hsr
              have hS0 : Only (fun z => w.heap.size ≤ z) Wr Wr := Only.refl _ _
              have hbS : ∀ w', Only (fun z => w.heap.size ≤ z) Wr w' → w'.cell? ⟨b2, 0, none⟩ = some (.slice ak k2.length ck) ∧ w'.cell? ⟨b2, 1, none⟩ = some (.slice av v2.length cv) := fun w' h => ⟨(World.cell?_of_block (h.block b2 hb2q (by have : b2 < w.heap.size := hb2; omega))).trans n0, (World.cell?_of_block (h.block b2 hb2q (by have : b2 < w.heap.size := hb2; omega))).trans n1⟩
              clear hky hvy hWr hP0 hOr hsr hhr cell c6 c7
              refine wpIn_region_held (S := fun w' => Only (fun z => w.heap.size ≤ z) Wq.drew.drew w') (by kernel_rfl) (by rintro ⟨a, w, h⟩; exact h) (by kernel_rfl) (Only.refl _ _) (fun hHeld => ?_)
              rw [← eWr] at hHeld ⊢
              clear eWr n0 n1
              refine wpAnyH_take (i := 1) (v := .pointer (some ⟨b2, 0, none⟩)) rfl (by kernel_rfl) (by kernel_rfl) (by kernel_rfl) (fun _ _ _ h => h) (Or.inl ⟨by rfl, ?_⟩) hHeld ?_
              · intro w' hSw; go_simp
              try simp only [Act.put, List.getElem_toArray, List.getElem_cons_succ, List.getElem_cons_zero, List.setIfInBounds_toArray, List.set_cons_zero, List.set_cons_succ]
              refine wpAnyH_take (i := 2) (v := .pointer (some ⟨b2, 0, none⟩)) rfl (by kernel_rfl) (by kernel_rfl) (by kernel_rfl) (fun _ _ _ h => h) (Or.inl ⟨by rfl, ?_⟩) hHeld ?_
              · intro w' hSw; go_simp
              try simp only [Act.put, List.getElem_toArray, List.getElem_cons_succ, List.getElem_cons_zero, List.setIfInBounds_toArray, List.set_cons_zero, List.set_cons_succ]
              refine wpAnyH_take (i := 3) (v := .pointer (some ⟨b2, 0, none⟩)) rfl (by kernel_rfl) (by kernel_rfl) (by kernel_rfl) (fun _ _ _ h => h) (Or.inl ⟨by rfl, ?_⟩) hHeld ?_
              · intro w' hSw; go_simp
              try simp only [Act.put, List.getElem_toArray, List.getElem_cons_succ, List.getElem_cons_zero, List.setIfInBounds_toArray, List.set_cons_zero, List.set_cons_succ]
              refine wpAnyH_take (i := 4) (v := .slice ak k2.length ck) rfl (by kernel_rfl) (by kernel_rfl) (by kernel_rfl) (fun _ _ _ h => h) (Or.inl ⟨by rfl, ?_⟩) hHeld ?_
              · intro w' hSw; have kx := (hbS w' hSw).1; go_simp
              try simp only [Act.put, List.getElem_toArray, List.getElem_cons_succ, List.getElem_cons_zero, List.setIfInBounds_toArray, List.set_cons_zero, List.set_cons_succ]
              refine wpAnyH_take (i := 6) (v := .pointer (some ⟨b2, 0, none⟩)) rfl (by kernel_rfl) (by kernel_rfl) (by kernel_rfl) (fun _ _ _ h => h) (Or.inl ⟨by rfl, ?_⟩) hHeld ?_
              · intro w' hSw; go_simp
              try simp only [Act.put, List.getElem_toArray, List.getElem_cons_succ, List.getElem_cons_zero, List.setIfInBounds_toArray, List.set_cons_zero, List.set_cons_succ]
              refine wpAnyH_take (i := 7) (v := .pointer (some ⟨b2, 0, none⟩)) rfl (by kernel_rfl) (by kernel_rfl) (by kernel_rfl) (fun _ _ _ h => h) (Or.inl ⟨by rfl, ?_⟩) hHeld ?_
              · intro w' hSw; go_simp
              try simp only [Act.put, List.getElem_toArray, List.getElem_cons_succ, List.getElem_cons_zero, List.setIfInBounds_toArray, List.set_cons_zero, List.set_cons_succ]
              refine wpAnyH_take (i := 8) (v := .pointer (some ⟨b2, 1, none⟩)) rfl (by kernel_rfl) (by kernel_rfl) (by kernel_rfl) (fun _ _ _ h => h) (Or.inl ⟨by rfl, ?_⟩) hHeld ?_
              · intro w' hSw; go_simp
              try simp only [Act.put, List.getElem_toArray, List.getElem_cons_succ, List.getElem_cons_zero, List.setIfInBounds_toArray, List.set_cons_zero, List.set_cons_succ]
              refine wpAnyH_take (i := 9) (v := .slice av v2.length cv) rfl (by kernel_rfl) (by kernel_rfl) (by kernel_rfl) (fun _ _ _ h => h) (Or.inl ⟨by rfl, ?_⟩) hHeld ?_
              · intro w' hSw; have kx := (hbS w' hSw).2; go_simp
              try simp only [Act.put, List.getElem_toArray, List.getElem_cons_succ, List.getElem_cons_zero, List.setIfInBounds_toArray, List.set_cons_zero, List.set_cons_succ]
              refine wpAnyH_ready (rs := [0, 5]) (by kernel_rfl) (by simp) ?_
              refine allVal (v := .slice po d2.length co) (w' := Wr) rfl (by kernel_rfl) ?_ hS0 ?_ ?_
              · go_simp
              · try simp only [Act.put, List.getElem_toArray, List.getElem_cons_succ, List.getElem_cons_zero, List.setIfInBounds_toArray, List.set_cons_zero, List.set_cons_succ]
                refine wpAnyH_ready (rs := [5]) (by kernel_rfl) (by simp) ?_
                refine allCall (f := 34) (args := #[.slice ak k2.length ck]) rfl (by kernel_rfl) ?_ ?_ AllReadyH.nil
                · kernel_rfl
                · refine Clone_any Wr.heap.size 0 Wr.heap.size k2 _ Wr Hky.out (Nat.le_refl _) (Nat.le_refl _) hln.1 _ (fun w1 k1 hB1 ho1 => ?_)
                  have hS1 : Only (fun z => w.heap.size ≤ z) Wr w1 := Below.only hB1
                  have c91 := (World.cell?_of_block (hB1.block _ hobr)).trans c9
                  obtain ⟨ak1, ck1, rfl, -, -, -⟩ := (OwnB.bytes ho1).form
                  refine ⟨_, rfl, hS1, ?_⟩
                  try simp only [Act.put, List.getElem_toArray, List.getElem_cons_succ, List.getElem_cons_zero, List.setIfInBounds_toArray, List.set_cons_zero, List.set_cons_succ]
                  refine wpAnyH_ready (rs := [10]) (by kernel_rfl) (by simp) ?_
                  refine allCall (f := 34) (args := #[.slice av v2.length cv]) rfl (by kernel_rfl) ?_ ?_ AllReadyH.nil
                  · kernel_rfl
                  · refine Clone_any w1.heap.size 0 Wr.heap.size v2 _ w1 (Hvy.out.below (flat_loc _) hB1 (Nat.le_refl _)) (Nat.le_refl _) hB1.size hln.2 _ (fun w2 v1 hB2 ho2 => ?_)
                    have hB02 := hB1.trans (hB2.mono hB1.size)
                    have hS2 : Only (fun z => w.heap.size ≤ z) Wr w2 := Below.only hB02
                    have c92 := (World.cell?_of_block (hB02.block _ hobr)).trans c9
                    obtain ⟨av1, cv1, rfl, -, -, -⟩ := (OwnB.bytes ho2).form
                    refine ⟨_, rfl, hS2, ?_⟩
                    have hHeld := hS2
                    try simp only [Act.put, List.getElem_toArray, List.getElem_cons_succ, List.getElem_cons_zero, List.setIfInBounds_toArray, List.set_cons_zero, List.set_cons_succ]
                    refine wpAnyH_take (i := 11) (v := .agg #[.slice ak1 k2.length ck1, .slice av1 v2.length cv1]) rfl (by kernel_rfl) (by kernel_rfl) (by kernel_rfl) (fun _ _ _ h => h) (Or.inl ⟨by rfl, ?_⟩) hHeld ?_
                    · intro w' hSw; go_simp
                    try simp only [Act.put, List.getElem_toArray, List.getElem_cons_succ, List.getElem_cons_zero, List.setIfInBounds_toArray, List.set_cons_zero, List.set_cons_succ]
                    refine wpAnyH_ready (rs := [12]) (by kernel_rfl) (by simp) ?_
                    have hS3 : Only (fun z => w.heap.size ≤ z) Wr (w2.alloc (.cells #[.slice ak1 k2.length ck1, .slice av1 v2.length cv1] 43)) := hS2.trans (Only.alloc w2 _)
                    have hB03 : Below Wr.heap.size Wr (w2.alloc (.cells #[.slice ak1 k2.length ck1, .slice av1 v2.length cv1] 43)) := hB02.trans (((Below.refl _ _).alloc (Nat.le_refl _) _).mono hB02.size)
                    have c93 := (World.cell?_of_block (hB03.block _ hobr)).trans c9
                    refine allVal rfl (by kernel_rfl) (execBuild (run_bsP ak1 av1 k2.length v2.length ck1 cv1 w2) rfl (by kernel_rfl)) hS3 ?_ AllReadyH.nil
                    try simp only [Act.put, List.getElem_toArray, List.getElem_cons_succ, List.getElem_cons_zero, List.setIfInBounds_toArray, List.set_cons_zero, List.set_cons_succ]
                    have hk9 := Own.kept ho1 hB2
                    have hv9 := OwnB.mono ho2 hB1.size
                    have hkv9 : ∀ g, Value.ownBlock (.slice ak1 k2.length ck1) = some g → Value.ownBlock (.slice av1 v2.length cv1) ≠ some g := fun g e1 e2 => by
                      have h1 := (ho1.lt g e1).2
                      have h2 := (ho2.lt g e2).1
                      omega
                    have hsr := Hsr.out
                    have hs9 := Hs9.out
                    have hLr : L + 1 ≤ Wr.heap.size := by omega
                    have hadd := HP0.out.add (x := (k2, v2)) (w2 := w2.alloc (.cells #[.slice ak1 k2.length ck1, .slice av1 v2.length cv1] 43)) hLr hB02 hk9 hv9 hkv9 rfl (by omega) (n := w2.heap.size) rfl
                    obtain ⟨pp, pm, pc, w5, hrun, hO5, hs5, hP5, hm5⟩ := hadd
                    have hlt5 := HP0.out.lt.1
                    have hno : ∀ z, z ≤ L → ¬ Value.ownBlock (.slice po d2.length co) = some z := fun z hz e => by have := (hlt5 z e).1; omega
                    have hVr := HV3.out.rec2 (W3 := Wr) (HOr.out.mono (fun _ _ e => e.elim)) ((HOr.out.block L (by omega) (fun e => e)).trans HV3.out.rcd)
                    have hT := hVr.told (o2 := .loop (RL .ready none)) (by omega) hO5 hP5 hm5 (blks_add hk9 hv9 ps)
                    have c95 := (World.cell?_of_block (hO5.block _ hobr (hno (w.heap.size + 2) (by omega)))).trans c9
                    have f95 : w5.frozen? ⟨w.heap.size + 2, 0, none⟩ = false := (hO5.blk hVr.out (hno (w.heap.size + 2) (by omega))).free 0
                    have hS5 : Only (fun z => w.heap.size ≤ z) Wr w5 := hO5.mono (fun z _ e => by have := (hlt5 z e).1; omega)
                    have hS6 : Only (fun z => w.heap.size ≤ z) Wr (w5.setCell ⟨w.heap.size + 2, 0, none⟩ (.slice pp pm pc)) := hS5.trans (Only.setCell (A := fun z => w.heap.size ≤ z) w5 (p := ⟨w.heap.size + 2, 0, none⟩) (by show w.heap.size ≤ w.heap.size + 2; omega) _)
                    have hl6 : (w5.setCell ⟨w.heap.size + 2, 0, none⟩ (.slice pp pm pc)).heap[L]? = some (.loop (RL .busy none)) := (Below.heap_setCell _ _ _ _ (by show L ≠ w.heap.size + 2; omega)).trans ((hO5.block L (by omega) (hno L (Nat.le_refl _))).trans ((HOr.out.block L (by omega) (fun e => e)).trans Hl3.out))
                    have hfin : Told (RgJ w.heap.size L (w.heap.size + 2) [(w.heap.size, .slice at' to.length ct, 30), (w.heap.size + 1, .int .i64 most, 3)] to most (.loop (RL .ready none))) (RgZ w.heap.size L (w.heap.size + 2) [(w.heap.size, .slice at' to.length ct, 30), (w.heap.size + 1, .int .i64 most, 3)] to most (t.from low) (.loop (RL .done (some (.exit 0))))) C2 d2 (k2, v2) Wy (.returned (.bool true)) ((w5.setCell ⟨w.heap.size + 2, 0, none⟩ (.slice pp pm pc)).putObj L (.loop (RL .ready none))) :=
                      ⟨_, ((Ho3.out.mono (fun z _ e => e ▸ HV3.out.cL)).trans (HOr.out.mono (fun _ _ e => e.elim))).trans hT.2, ⟨fun z e => .inl e, fun z e => e.imp id (fun h => by have := h.1; omega)⟩, .inl ⟨rfl, ⟨_, _, hT.1⟩, fun x hx => (List.mem_append.1 hx).elim (Hwi.out x) (fun h => by rw [List.mem_singleton.1 h]; exact hwx), .inl (by rw [List.length_append, List.length_singleton]; omega)⟩⟩
                    have Hfin := Lib.hid hfin
                    have Hl6 := Lib.hid hl6
                    clear hfin hl6 hT hVr hno hlt5 hk9 hv9 hkv9 hP5 hm5 hsr hs9 hs5
                    refine wpAnyH_ready (rs := [13]) (by kernel_rfl) (by simp) ?_
                    refine allVal rfl (by kernel_rfl) (execApp hrun rfl (by kernel_rfl) (by kernel_rfl)) hS5 ?_ AllReadyH.nil
                    try simp only [Act.put, List.getElem_toArray, List.getElem_cons_succ, List.getElem_cons_zero, List.setIfInBounds_toArray, List.set_cons_zero, List.set_cons_succ]
                    refine wpAnyH_ready (rs := [14]) (by kernel_rfl) (by simp) ?_
                    refine allSkip (w' := (w5.setCell ⟨w.heap.size + 2, 0, none⟩ (.slice pp pm pc))) rfl (by kernel_rfl) ?_ hS6 ?_ AllReadyH.nil
                    · go_simp
                    try simp only [Act.put, List.getElem_toArray, List.getElem_cons_succ, List.getElem_cons_zero, List.setIfInBounds_toArray, List.set_cons_zero, List.set_cons_succ]
                    refine wpAnyH_done (by kernel_rfl) ?_ _
                    gi_wp2_with fail
                    exact roundPost_normalR HRL.out Hl6.out Hfin.out
              · refine allCall (f := 34) (args := #[.slice ak k2.length ck]) rfl (by kernel_rfl) ?_ ?_ AllReadyH.nil
                · kernel_rfl
                · refine Clone_any Wr.heap.size 0 Wr.heap.size k2 _ Wr Hky.out (Nat.le_refl _) (Nat.le_refl _) hln.1 _ (fun w1 k1 hB1 ho1 => ?_)
                  have hS1 : Only (fun z => w.heap.size ≤ z) Wr w1 := Below.only hB1
                  have c91 := (World.cell?_of_block (hB1.block _ hobr)).trans c9
                  obtain ⟨ak1, ck1, rfl, -, -, -⟩ := (OwnB.bytes ho1).form
                  refine ⟨_, rfl, hS1, ?_⟩
                  try simp only [Act.put, List.getElem_toArray, List.getElem_cons_succ, List.getElem_cons_zero, List.setIfInBounds_toArray, List.set_cons_zero, List.set_cons_succ]
                  refine wpAnyH_ready (rs := [0, 10]) (by kernel_rfl) (by simp) ?_
                  refine allVal (v := .slice po d2.length co) (w' := w1) rfl (by kernel_rfl) ?_ hS1 ?_ ?_
                  · go_simp
                  · try simp only [Act.put, List.getElem_toArray, List.getElem_cons_succ, List.getElem_cons_zero, List.setIfInBounds_toArray, List.set_cons_zero, List.set_cons_succ]
                    refine wpAnyH_ready (rs := [10]) (by kernel_rfl) (by simp) ?_
                    refine allCall (f := 34) (args := #[.slice av v2.length cv]) rfl (by kernel_rfl) ?_ ?_ AllReadyH.nil
                    · kernel_rfl
                    · refine Clone_any w1.heap.size 0 Wr.heap.size v2 _ w1 (Hvy.out.below (flat_loc _) hB1 (Nat.le_refl _)) (Nat.le_refl _) hB1.size hln.2 _ (fun w2 v1 hB2 ho2 => ?_)
                      have hB02 := hB1.trans (hB2.mono hB1.size)
                      have hS2 : Only (fun z => w.heap.size ≤ z) Wr w2 := Below.only hB02
                      have c92 := (World.cell?_of_block (hB02.block _ hobr)).trans c9
                      obtain ⟨av1, cv1, rfl, -, -, -⟩ := (OwnB.bytes ho2).form
                      refine ⟨_, rfl, hS2, ?_⟩
                      have hHeld := hS2
                      try simp only [Act.put, List.getElem_toArray, List.getElem_cons_succ, List.getElem_cons_zero, List.setIfInBounds_toArray, List.set_cons_zero, List.set_cons_succ]
                      refine wpAnyH_take (i := 11) (v := .agg #[.slice ak1 k2.length ck1, .slice av1 v2.length cv1]) rfl (by kernel_rfl) (by kernel_rfl) (by kernel_rfl) (fun _ _ _ h => h) (Or.inl ⟨by rfl, ?_⟩) hHeld ?_
                      · intro w' hSw; go_simp
                      try simp only [Act.put, List.getElem_toArray, List.getElem_cons_succ, List.getElem_cons_zero, List.setIfInBounds_toArray, List.set_cons_zero, List.set_cons_succ]
                      refine wpAnyH_ready (rs := [12]) (by kernel_rfl) (by simp) ?_
                      have hS3 : Only (fun z => w.heap.size ≤ z) Wr (w2.alloc (.cells #[.slice ak1 k2.length ck1, .slice av1 v2.length cv1] 43)) := hS2.trans (Only.alloc w2 _)
                      have hB03 : Below Wr.heap.size Wr (w2.alloc (.cells #[.slice ak1 k2.length ck1, .slice av1 v2.length cv1] 43)) := hB02.trans (((Below.refl _ _).alloc (Nat.le_refl _) _).mono hB02.size)
                      have c93 := (World.cell?_of_block (hB03.block _ hobr)).trans c9
                      refine allVal rfl (by kernel_rfl) (execBuild (run_bsP ak1 av1 k2.length v2.length ck1 cv1 w2) rfl (by kernel_rfl)) hS3 ?_ AllReadyH.nil
                      try simp only [Act.put, List.getElem_toArray, List.getElem_cons_succ, List.getElem_cons_zero, List.setIfInBounds_toArray, List.set_cons_zero, List.set_cons_succ]
                      have hk9 := Own.kept ho1 hB2
                      have hv9 := OwnB.mono ho2 hB1.size
                      have hkv9 : ∀ g, Value.ownBlock (.slice ak1 k2.length ck1) = some g → Value.ownBlock (.slice av1 v2.length cv1) ≠ some g := fun g e1 e2 => by
                        have h1 := (ho1.lt g e1).2
                        have h2 := (ho2.lt g e2).1
                        omega
                      have hsr := Hsr.out
                      have hs9 := Hs9.out
                      have hLr : L + 1 ≤ Wr.heap.size := by omega
                      have hadd := HP0.out.add (x := (k2, v2)) (w2 := w2.alloc (.cells #[.slice ak1 k2.length ck1, .slice av1 v2.length cv1] 43)) hLr hB02 hk9 hv9 hkv9 rfl (by omega) (n := w2.heap.size) rfl
                      obtain ⟨pp, pm, pc, w5, hrun, hO5, hs5, hP5, hm5⟩ := hadd
                      have hlt5 := HP0.out.lt.1
                      have hno : ∀ z, z ≤ L → ¬ Value.ownBlock (.slice po d2.length co) = some z := fun z hz e => by have := (hlt5 z e).1; omega
                      have hVr := HV3.out.rec2 (W3 := Wr) (HOr.out.mono (fun _ _ e => e.elim)) ((HOr.out.block L (by omega) (fun e => e)).trans HV3.out.rcd)
                      have hT := hVr.told (o2 := .loop (RL .ready none)) (by omega) hO5 hP5 hm5 (blks_add hk9 hv9 ps)
                      have c95 := (World.cell?_of_block (hO5.block _ hobr (hno (w.heap.size + 2) (by omega)))).trans c9
                      have f95 : w5.frozen? ⟨w.heap.size + 2, 0, none⟩ = false := (hO5.blk hVr.out (hno (w.heap.size + 2) (by omega))).free 0
                      have hS5 : Only (fun z => w.heap.size ≤ z) Wr w5 := hO5.mono (fun z _ e => by have := (hlt5 z e).1; omega)
                      have hS6 : Only (fun z => w.heap.size ≤ z) Wr (w5.setCell ⟨w.heap.size + 2, 0, none⟩ (.slice pp pm pc)) := hS5.trans (Only.setCell (A := fun z => w.heap.size ≤ z) w5 (p := ⟨w.heap.size + 2, 0, none⟩) (by show w.heap.size ≤ w.heap.size + 2; omega) _)
                      have hl6 : (w5.setCell ⟨w.heap.size + 2, 0, none⟩ (.slice pp pm pc)).heap[L]? = some (.loop (RL .busy none)) := (Below.heap_setCell _ _ _ _ (by show L ≠ w.heap.size + 2; omega)).trans ((hO5.block L (by omega) (hno L (Nat.le_refl _))).trans ((HOr.out.block L (by omega) (fun e => e)).trans Hl3.out))
                      have hfin : Told (RgJ w.heap.size L (w.heap.size + 2) [(w.heap.size, .slice at' to.length ct, 30), (w.heap.size + 1, .int .i64 most, 3)] to most (.loop (RL .ready none))) (RgZ w.heap.size L (w.heap.size + 2) [(w.heap.size, .slice at' to.length ct, 30), (w.heap.size + 1, .int .i64 most, 3)] to most (t.from low) (.loop (RL .done (some (.exit 0))))) C2 d2 (k2, v2) Wy (.returned (.bool true)) ((w5.setCell ⟨w.heap.size + 2, 0, none⟩ (.slice pp pm pc)).putObj L (.loop (RL .ready none))) :=
                        ⟨_, ((Ho3.out.mono (fun z _ e => e ▸ HV3.out.cL)).trans (HOr.out.mono (fun _ _ e => e.elim))).trans hT.2, ⟨fun z e => .inl e, fun z e => e.imp id (fun h => by have := h.1; omega)⟩, .inl ⟨rfl, ⟨_, _, hT.1⟩, fun x hx => (List.mem_append.1 hx).elim (Hwi.out x) (fun h => by rw [List.mem_singleton.1 h]; exact hwx), .inl (by rw [List.length_append, List.length_singleton]; omega)⟩⟩
                      have Hfin := Lib.hid hfin
                      have Hl6 := Lib.hid hl6
                      clear hfin hl6 hT hVr hno hlt5 hk9 hv9 hkv9 hP5 hm5 hsr hs9 hs5
                      refine wpAnyH_ready (rs := [13]) (by kernel_rfl) (by simp) ?_
                      refine allVal rfl (by kernel_rfl) (execApp hrun rfl (by kernel_rfl) (by kernel_rfl)) hS5 ?_ AllReadyH.nil
                      try simp only [Act.put, List.getElem_toArray, List.getElem_cons_succ, List.getElem_cons_zero, List.setIfInBounds_toArray, List.set_cons_zero, List.set_cons_succ]
                      refine wpAnyH_ready (rs := [14]) (by kernel_rfl) (by simp) ?_
                      refine allSkip (w' := (w5.setCell ⟨w.heap.size + 2, 0, none⟩ (.slice pp pm pc))) rfl (by kernel_rfl) ?_ hS6 ?_ AllReadyH.nil
                      · go_simp
                      try simp only [Act.put, List.getElem_toArray, List.getElem_cons_succ, List.getElem_cons_zero, List.setIfInBounds_toArray, List.set_cons_zero, List.set_cons_succ]
                      refine wpAnyH_done (by kernel_rfl) ?_ _
                      gi_wp2_with fail
                      exact roundPost_normalR HRL.out Hl6.out Hfin.out
                  · refine allCall (f := 34) (args := #[.slice av v2.length cv]) rfl (by kernel_rfl) ?_ ?_ AllReadyH.nil
                    · kernel_rfl
                    · refine Clone_any w1.heap.size 0 Wr.heap.size v2 _ w1 (Hvy.out.below (flat_loc _) hB1 (Nat.le_refl _)) (Nat.le_refl _) hB1.size hln.2 _ (fun w2 v1 hB2 ho2 => ?_)
                      have hB02 := hB1.trans (hB2.mono hB1.size)
                      have hS2 : Only (fun z => w.heap.size ≤ z) Wr w2 := Below.only hB02
                      have c92 := (World.cell?_of_block (hB02.block _ hobr)).trans c9
                      obtain ⟨av1, cv1, rfl, -, -, -⟩ := (OwnB.bytes ho2).form
                      refine ⟨_, rfl, hS2, ?_⟩
                      have hHeld := hS2
                      try simp only [Act.put, List.getElem_toArray, List.getElem_cons_succ, List.getElem_cons_zero, List.setIfInBounds_toArray, List.set_cons_zero, List.set_cons_succ]
                      refine wpAnyH_take (i := 11) (v := .agg #[.slice ak1 k2.length ck1, .slice av1 v2.length cv1]) rfl (by kernel_rfl) (by kernel_rfl) (by kernel_rfl) (fun _ _ _ h => h) (Or.inl ⟨by rfl, ?_⟩) hHeld ?_
                      · intro w' hSw; go_simp
                      try simp only [Act.put, List.getElem_toArray, List.getElem_cons_succ, List.getElem_cons_zero, List.setIfInBounds_toArray, List.set_cons_zero, List.set_cons_succ]
                      refine wpAnyH_ready (rs := [0, 12]) (by kernel_rfl) (by simp) ?_
                      refine allVal (v := .slice po d2.length co) (w' := w2) rfl (by kernel_rfl) ?_ hS2 ?_ ?_
                      · go_simp
                      · try simp only [Act.put, List.getElem_toArray, List.getElem_cons_succ, List.getElem_cons_zero, List.setIfInBounds_toArray, List.set_cons_zero, List.set_cons_succ]
                        refine wpAnyH_ready (rs := [12]) (by kernel_rfl) (by simp) ?_
                        have hS3 : Only (fun z => w.heap.size ≤ z) Wr (w2.alloc (.cells #[.slice ak1 k2.length ck1, .slice av1 v2.length cv1] 43)) := hS2.trans (Only.alloc w2 _)
                        have hB03 : Below Wr.heap.size Wr (w2.alloc (.cells #[.slice ak1 k2.length ck1, .slice av1 v2.length cv1] 43)) := hB02.trans (((Below.refl _ _).alloc (Nat.le_refl _) _).mono hB02.size)
                        have c93 := (World.cell?_of_block (hB03.block _ hobr)).trans c9
                        refine allVal rfl (by kernel_rfl) (execBuild (run_bsP ak1 av1 k2.length v2.length ck1 cv1 w2) rfl (by kernel_rfl)) hS3 ?_ AllReadyH.nil
                        try simp only [Act.put, List.getElem_toArray, List.getElem_cons_succ, List.getElem_cons_zero, List.setIfInBounds_toArray, List.set_cons_zero, List.set_cons_succ]
                        have hk9 := Own.kept ho1 hB2
                        have hv9 := OwnB.mono ho2 hB1.size
                        have hkv9 : ∀ g, Value.ownBlock (.slice ak1 k2.length ck1) = some g → Value.ownBlock (.slice av1 v2.length cv1) ≠ some g := fun g e1 e2 => by
                          have h1 := (ho1.lt g e1).2
                          have h2 := (ho2.lt g e2).1
                          omega
                        have hsr := Hsr.out
                        have hs9 := Hs9.out
                        have hLr : L + 1 ≤ Wr.heap.size := by omega
                        have hadd := HP0.out.add (x := (k2, v2)) (w2 := w2.alloc (.cells #[.slice ak1 k2.length ck1, .slice av1 v2.length cv1] 43)) hLr hB02 hk9 hv9 hkv9 rfl (by omega) (n := w2.heap.size) rfl
                        obtain ⟨pp, pm, pc, w5, hrun, hO5, hs5, hP5, hm5⟩ := hadd
                        have hlt5 := HP0.out.lt.1
                        have hno : ∀ z, z ≤ L → ¬ Value.ownBlock (.slice po d2.length co) = some z := fun z hz e => by have := (hlt5 z e).1; omega
                        have hVr := HV3.out.rec2 (W3 := Wr) (HOr.out.mono (fun _ _ e => e.elim)) ((HOr.out.block L (by omega) (fun e => e)).trans HV3.out.rcd)
                        have hT := hVr.told (o2 := .loop (RL .ready none)) (by omega) hO5 hP5 hm5 (blks_add hk9 hv9 ps)
                        have c95 := (World.cell?_of_block (hO5.block _ hobr (hno (w.heap.size + 2) (by omega)))).trans c9
                        have f95 : w5.frozen? ⟨w.heap.size + 2, 0, none⟩ = false := (hO5.blk hVr.out (hno (w.heap.size + 2) (by omega))).free 0
                        have hS5 : Only (fun z => w.heap.size ≤ z) Wr w5 := hO5.mono (fun z _ e => by have := (hlt5 z e).1; omega)
                        have hS6 : Only (fun z => w.heap.size ≤ z) Wr (w5.setCell ⟨w.heap.size + 2, 0, none⟩ (.slice pp pm pc)) := hS5.trans (Only.setCell (A := fun z => w.heap.size ≤ z) w5 (p := ⟨w.heap.size + 2, 0, none⟩) (by show w.heap.size ≤ w.heap.size + 2; omega) _)
                        have hl6 : (w5.setCell ⟨w.heap.size + 2, 0, none⟩ (.slice pp pm pc)).heap[L]? = some (.loop (RL .busy none)) := (Below.heap_setCell _ _ _ _ (by show L ≠ w.heap.size + 2; omega)).trans ((hO5.block L (by omega) (hno L (Nat.le_refl _))).trans ((HOr.out.block L (by omega) (fun e => e)).trans Hl3.out))
                        have hfin : Told (RgJ w.heap.size L (w.heap.size + 2) [(w.heap.size, .slice at' to.length ct, 30), (w.heap.size + 1, .int .i64 most, 3)] to most (.loop (RL .ready none))) (RgZ w.heap.size L (w.heap.size + 2) [(w.heap.size, .slice at' to.length ct, 30), (w.heap.size + 1, .int .i64 most, 3)] to most (t.from low) (.loop (RL .done (some (.exit 0))))) C2 d2 (k2, v2) Wy (.returned (.bool true)) ((w5.setCell ⟨w.heap.size + 2, 0, none⟩ (.slice pp pm pc)).putObj L (.loop (RL .ready none))) :=
                          ⟨_, ((Ho3.out.mono (fun z _ e => e ▸ HV3.out.cL)).trans (HOr.out.mono (fun _ _ e => e.elim))).trans hT.2, ⟨fun z e => .inl e, fun z e => e.imp id (fun h => by have := h.1; omega)⟩, .inl ⟨rfl, ⟨_, _, hT.1⟩, fun x hx => (List.mem_append.1 hx).elim (Hwi.out x) (fun h => by rw [List.mem_singleton.1 h]; exact hwx), .inl (by rw [List.length_append, List.length_singleton]; omega)⟩⟩
                        have Hfin := Lib.hid hfin
                        have Hl6 := Lib.hid hl6
                        clear hfin hl6 hT hVr hno hlt5 hk9 hv9 hkv9 hP5 hm5 hsr hs9 hs5
                        refine wpAnyH_ready (rs := [13]) (by kernel_rfl) (by simp) ?_
                        refine allVal rfl (by kernel_rfl) (execApp hrun rfl (by kernel_rfl) (by kernel_rfl)) hS5 ?_ AllReadyH.nil
                        try simp only [Act.put, List.getElem_toArray, List.getElem_cons_succ, List.getElem_cons_zero, List.setIfInBounds_toArray, List.set_cons_zero, List.set_cons_succ]
                        refine wpAnyH_ready (rs := [14]) (by kernel_rfl) (by simp) ?_
                        refine allSkip (w' := (w5.setCell ⟨w.heap.size + 2, 0, none⟩ (.slice pp pm pc))) rfl (by kernel_rfl) ?_ hS6 ?_ AllReadyH.nil
                        · go_simp
                        try simp only [Act.put, List.getElem_toArray, List.getElem_cons_succ, List.getElem_cons_zero, List.setIfInBounds_toArray, List.set_cons_zero, List.set_cons_succ]
                        refine wpAnyH_done (by kernel_rfl) ?_ _
                        gi_wp2_with fail
                        exact roundPost_normalR HRL.out Hl6.out Hfin.out
                      · have hS3 : Only (fun z => w.heap.size ≤ z) Wr (w2.alloc (.cells #[.slice ak1 k2.length ck1, .slice av1 v2.length cv1] 43)) := hS2.trans (Only.alloc w2 _)
                        have hB03 : Below Wr.heap.size Wr (w2.alloc (.cells #[.slice ak1 k2.length ck1, .slice av1 v2.length cv1] 43)) := hB02.trans (((Below.refl _ _).alloc (Nat.le_refl _) _).mono hB02.size)
                        have c93 := (World.cell?_of_block (hB03.block _ hobr)).trans c9
                        refine allVal rfl (by kernel_rfl) (execBuild (run_bsP ak1 av1 k2.length v2.length ck1 cv1 w2) rfl (by kernel_rfl)) hS3 ?_ AllReadyH.nil
                        try simp only [Act.put, List.getElem_toArray, List.getElem_cons_succ, List.getElem_cons_zero, List.setIfInBounds_toArray, List.set_cons_zero, List.set_cons_succ]
                        refine wpAnyH_ready (rs := [0]) (by kernel_rfl) (by simp) ?_
                        refine allVal (v := .slice po d2.length co) (w' := w2.alloc (.cells #[.slice ak1 k2.length ck1, .slice av1 v2.length cv1] 43)) rfl (by kernel_rfl) ?_ hS3 ?_ AllReadyH.nil
                        · go_simp
                        try simp only [Act.put, List.getElem_toArray, List.getElem_cons_succ, List.getElem_cons_zero, List.setIfInBounds_toArray, List.set_cons_zero, List.set_cons_succ]
                        have hk9 := Own.kept ho1 hB2
                        have hv9 := OwnB.mono ho2 hB1.size
                        have hkv9 : ∀ g, Value.ownBlock (.slice ak1 k2.length ck1) = some g → Value.ownBlock (.slice av1 v2.length cv1) ≠ some g := fun g e1 e2 => by
                          have h1 := (ho1.lt g e1).2
                          have h2 := (ho2.lt g e2).1
                          omega
                        have hsr := Hsr.out
                        have hs9 := Hs9.out
                        have hLr : L + 1 ≤ Wr.heap.size := by omega
                        have hadd := HP0.out.add (x := (k2, v2)) (w2 := w2.alloc (.cells #[.slice ak1 k2.length ck1, .slice av1 v2.length cv1] 43)) hLr hB02 hk9 hv9 hkv9 rfl (by omega) (n := w2.heap.size) rfl
                        obtain ⟨pp, pm, pc, w5, hrun, hO5, hs5, hP5, hm5⟩ := hadd
                        have hlt5 := HP0.out.lt.1
                        have hno : ∀ z, z ≤ L → ¬ Value.ownBlock (.slice po d2.length co) = some z := fun z hz e => by have := (hlt5 z e).1; omega
                        have hVr := HV3.out.rec2 (W3 := Wr) (HOr.out.mono (fun _ _ e => e.elim)) ((HOr.out.block L (by omega) (fun e => e)).trans HV3.out.rcd)
                        have hT := hVr.told (o2 := .loop (RL .ready none)) (by omega) hO5 hP5 hm5 (blks_add hk9 hv9 ps)
                        have c95 := (World.cell?_of_block (hO5.block _ hobr (hno (w.heap.size + 2) (by omega)))).trans c9
                        have f95 : w5.frozen? ⟨w.heap.size + 2, 0, none⟩ = false := (hO5.blk hVr.out (hno (w.heap.size + 2) (by omega))).free 0
                        have hS5 : Only (fun z => w.heap.size ≤ z) Wr w5 := hO5.mono (fun z _ e => by have := (hlt5 z e).1; omega)
                        have hS6 : Only (fun z => w.heap.size ≤ z) Wr (w5.setCell ⟨w.heap.size + 2, 0, none⟩ (.slice pp pm pc)) := hS5.trans (Only.setCell (A := fun z => w.heap.size ≤ z) w5 (p := ⟨w.heap.size + 2, 0, none⟩) (by show w.heap.size ≤ w.heap.size + 2; omega) _)
                        have hl6 : (w5.setCell ⟨w.heap.size + 2, 0, none⟩ (.slice pp pm pc)).heap[L]? = some (.loop (RL .busy none)) := (Below.heap_setCell _ _ _ _ (by show L ≠ w.heap.size + 2; omega)).trans ((hO5.block L (by omega) (hno L (Nat.le_refl _))).trans ((HOr.out.block L (by omega) (fun e => e)).trans Hl3.out))
                        have hfin : Told (RgJ w.heap.size L (w.heap.size + 2) [(w.heap.size, .slice at' to.length ct, 30), (w.heap.size + 1, .int .i64 most, 3)] to most (.loop (RL .ready none))) (RgZ w.heap.size L (w.heap.size + 2) [(w.heap.size, .slice at' to.length ct, 30), (w.heap.size + 1, .int .i64 most, 3)] to most (t.from low) (.loop (RL .done (some (.exit 0))))) C2 d2 (k2, v2) Wy (.returned (.bool true)) ((w5.setCell ⟨w.heap.size + 2, 0, none⟩ (.slice pp pm pc)).putObj L (.loop (RL .ready none))) :=
                          ⟨_, ((Ho3.out.mono (fun z _ e => e ▸ HV3.out.cL)).trans (HOr.out.mono (fun _ _ e => e.elim))).trans hT.2, ⟨fun z e => .inl e, fun z e => e.imp id (fun h => by have := h.1; omega)⟩, .inl ⟨rfl, ⟨_, _, hT.1⟩, fun x hx => (List.mem_append.1 hx).elim (Hwi.out x) (fun h => by rw [List.mem_singleton.1 h]; exact hwx), .inl (by rw [List.length_append, List.length_singleton]; omega)⟩⟩
                        have Hfin := Lib.hid hfin
                        have Hl6 := Lib.hid hl6
                        clear hfin hl6 hT hVr hno hlt5 hk9 hv9 hkv9 hP5 hm5 hsr hs9 hs5
                        refine wpAnyH_ready (rs := [13]) (by kernel_rfl) (by simp) ?_
                        refine allVal rfl (by kernel_rfl) (execApp hrun rfl (by kernel_rfl) (by kernel_rfl)) hS5 ?_ AllReadyH.nil
                        try simp only [Act.put, List.getElem_toArray, List.getElem_cons_succ, List.getElem_cons_zero, List.setIfInBounds_toArray, List.set_cons_zero, List.set_cons_succ]
                        refine wpAnyH_ready (rs := [14]) (by kernel_rfl) (by simp) ?_
                        refine allSkip (w' := (w5.setCell ⟨w.heap.size + 2, 0, none⟩ (.slice pp pm pc))) rfl (by kernel_rfl) ?_ hS6 ?_ AllReadyH.nil
                        · go_simp
                        try simp only [Act.put, List.getElem_toArray, List.getElem_cons_succ, List.getElem_cons_zero, List.setIfInBounds_toArray, List.set_cons_zero, List.set_cons_succ]
                        refine wpAnyH_done (by kernel_rfl) ?_ _
                        gi_wp2_with fail
                        exact roundPost_normalR HRL.out Hl6.out Hfin.out
            · have hge : 0 ≤ cmpB k2 to := by omega
              have hst := Hstop.out (.inr (fun e => e.elim hE hcmp))
              have Hst := Lib.hid hst
              clear hst
              generalize cmpB k2 to = c at *
              refine wpAnyH_take (i := 15) (v := .bool true) rfl (by kernel_rfl) (by kernel_rfl) (by kernel_rfl) (fun _ _ _ h => h) (Or.inl ⟨by rfl, ?_⟩) hHeld ?_
              · intro w' hSw; subst hSw; go_simp
              try simp only [Act.put, List.getElem_toArray, List.getElem_cons_succ, List.getElem_cons_zero, List.setIfInBounds_toArray, List.set_cons_zero, List.set_cons_succ]
              refine wpAnyH_take (i := 16) (v := .bool true) rfl (by kernel_rfl) (by kernel_rfl) (by kernel_rfl) (fun _ _ _ h => h) (Or.inl ⟨by rfl, ?_⟩) hHeld ?_
              · intro w' hSw; subst hSw; go_simp
              try simp only [Act.put, List.getElem_toArray, List.getElem_cons_succ, List.getElem_cons_zero, List.setIfInBounds_toArray, List.set_cons_zero, List.set_cons_succ]
              refine wpAnyH_take (i := 17) (v := .bool true) rfl (by kernel_rfl) (by kernel_rfl) (by kernel_rfl) (fun _ _ _ h => h) (Or.inl ⟨by rfl, ?_⟩) hHeld ?_
              · intro w' hSw; subst hSw; go_simp
              try simp only [Act.put, List.getElem_toArray, List.getElem_cons_succ, List.getElem_cons_zero, List.setIfInBounds_toArray, List.set_cons_zero, List.set_cons_succ]
              refine wpAnyH_done (by kernel_rfl) ?_ _
              gi_wp2_with fail
              exact roundPost_exitR HRL.out Hl3.out (Hst.out 1)
  case hend =>
    rintro e W6 ⟨⟨v6, rfl⟩, C6, ho6, hup6, hx6⟩
    have hD6 : W6.heap[We.heap.size]? = some (.deferred (some [])) := (ho6.block We.heap.size (by omega) (by rintro (e | e | e | e) <;> omega)).trans hlD
    have hO06 : Only (fun k => w.heap.size ≤ k) w W6 := (Below.onlyGe hBw5).trans (ho6.mono (fun k hk e => by rcases e with e | e | e | e <;> omega))
    rcases hx6 with hj | hz
    · obtain ⟨⟨vo, ps, hV⟩, hwi, hle⟩ := hj
      have heq : rangeL to most (t.from low) = [] ++ t.from low := by rw [List.nil_append] at hwi hle ⊢; exact range_full hwi hle
      refine ⟨⟨v6, rfl⟩, .ready, none, by simp, hV.rcd, ?_⟩
      show Exit.inBlock 0 _ Exit.normal _ (W6.putObj L (.loop (RL .exhausted none)))
      have hL6 := (hV.cl L hV.cL).2
      have h7 : Only (· = L) W6 (W6.putObj L (.loop (RL .exhausted none))) := Only.putObj (A := (· = L)) _ (b := L) rfl _
      have hV7 := hV.rec2 h7 (World.putObj_heap_same (o := .loop (RL .exhausted none)) hL6)
      have hD7 : (W6.putObj L (.loop (RL .exhausted none))).heap[We.heap.size]? = some (.deferred (some [])) := (h7.block _ (by have := ho6.size; omega) (by omega)).trans hD6
      have hO7 : Only (fun k => w.heap.size ≤ k) w (W6.putObj L (.loop (RL .exhausted none))) := hO06.trans (h7.mono (fun k _ e => by rw [e]; omega))
      generalize W6.putObj L (.loop (RL .exhausted none)) = W7 at *
      have h8 : Only (· = We.heap.size) W7 (W7.putObj We.heap.size (.deferred none)) := Only.putObj (A := (· = We.heap.size)) _ (b := We.heap.size) rfl _
      have hne8 : ∀ g, L + 1 ≤ g → g ≠ We.heap.size := fun g hg => by omega
      have hlt7 := hV7.prs.lt
      have hP8 : Pairs (L + 1) (W7.putObj We.heap.size (.deferred none)) vo ps _ := hV7.prs.same (fun g e => h8.block g (hlt7.1 g e).2 (hne8 g (hlt7.1 g e).1)) (fun g e => h8.block g (hlt7.2 g e).2 (hne8 g (hlt7.2 g e).1))
      have hB8 : Below w.heap.size w (W7.putObj We.heap.size (.deferred none)) := (hO7.trans (h8.mono (fun k _ e => by rw [e]; omega))).below (Nat.le_refl _) (fun k e => e)
      have hr := HR.out _ vo ps hB8 (by rw [heq]; exact hP8.mono (by omega))
      have HD7 := Lib.hid hD7
      have c9 := hV7.out.cells.c1
      obtain ⟨po, co, rfl⟩ := hV7.prs.own.slice
      have Hr := Lib.hid hr
      clear hs3 hse hs5 eL hV hV7 hD6 hD7 hO06 hO7 h7 h8 hP8 hB8 hr hlt7 hne8 heq hwi hle ho6 hup6 hL6
      go_wp2_with fail
      refine ⟨by simp, .inl ⟨_, _, rfl, run_takeDeferred HD7.out, ?_⟩⟩
      exact ⟨_, results_tmp (t := 8) rfl _ _ _, fin Hr.out rfl⟩
    · obtain ⟨d, x, rest, htot, hwi, hle, hst, vo, ps, hV⟩ := hz
      have heq : rangeL to most (t.from low) = d := by rw [htot]; exact range_stop hwi hle hst
      refine ⟨⟨v6, rfl⟩, .done, some (.exit 0), by simp, hV.rcd, ?_⟩
      dsimp only
      clear htot
      have hL6 := (hV.cl L hV.cL).2
      have h7 : Only (· = L) W6 (W6.putObj L (.loop (RL .exhausted (some (.exit 0))))) := Only.putObj (A := (· = L)) _ (b := L) rfl _
      have hV7 := hV.rec2 h7 (World.putObj_heap_same (o := .loop (RL .exhausted (some (.exit 0)))) hL6)
      have hD7 : (W6.putObj L (.loop (RL .exhausted (some (.exit 0))))).heap[We.heap.size]? = some (.deferred (some [])) := (h7.block _ (by have := ho6.size; omega) (by omega)).trans hD6
      have hO7 : Only (fun k => w.heap.size ≤ k) w (W6.putObj L (.loop (RL .exhausted (some (.exit 0))))) := hO06.trans (h7.mono (fun k _ e => by rw [e]; omega))
      generalize W6.putObj L (.loop (RL .exhausted (some (.exit 0)))) = W7 at *
      have h8 : Only (· = We.heap.size) W7 (W7.putObj We.heap.size (.deferred none)) := Only.putObj (A := (· = We.heap.size)) _ (b := We.heap.size) rfl _
      have hne8 : ∀ g, L + 1 ≤ g → g ≠ We.heap.size := fun g hg => by omega
      have hlt7 := hV7.prs.lt
      have hP8 : Pairs (L + 1) (W7.putObj We.heap.size (.deferred none)) vo ps _ := hV7.prs.same (fun g e => h8.block g (hlt7.1 g e).2 (hne8 g (hlt7.1 g e).1)) (fun g e => h8.block g (hlt7.2 g e).2 (hne8 g (hlt7.2 g e).1))
      have hB8 : Below w.heap.size w (W7.putObj We.heap.size (.deferred none)) := (hO7.trans (h8.mono (fun k _ e => by rw [e]; omega))).below (Nat.le_refl _) (fun k e => e)
      have hr := HR.out _ vo ps hB8 (by rw [heq]; exact hP8.mono (by omega))
      have HD7 := Lib.hid hD7
      have c9 := hV7.out.cells.c1
      obtain ⟨po, co, rfl⟩ := hV7.prs.own.slice
      have Hr := Lib.hid hr
      clear hs3 hse hs5 eL hV hV7 hD6 hD7 hO06 hO7 h7 h8 hP8 hB8 hr hlt7 hne8 heq hwi hle ho6 hup6 hL6
      go_wp2_with fail
      refine ⟨by simp, .inl ⟨_, _, rfl, run_takeDeferred HD7.out, ?_⟩⟩
      exact ⟨_, results_tmp (t := 8) rfl _ _ _, fin Hr.out rfl⟩
end Go.Proofs.Ytmlcnfomiemdpaa
