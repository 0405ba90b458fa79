/- Trees: the iterator 'from'. (Printed by treefr.py.) -/
import Derived.Test.YtmlcnfomiemdpaaTreeA
import Derived.Test.YtmlcnfomiemdpaaRangeR
namespace Go.Proofs.Ytmlcnfomiemdpaa
open Go.RowKit Go.Shelf
attribute [local go_sem ↓] Go.wp_at_zero Go.wp_at_succ
attribute [local go_sem] Oper.semAt_some
set_option linter.unusedVariables false
set_option linter.unusedSimpArgs false

def Up (C C' : Nat → Prop) (n : Nat) : Prop := (∀ k, C k → C' k) ∧ ∀ k, C' k → C k ∨ n ≤ k
theorem Up.refl (C : Nat → Prop) (n : Nat) : Up C C n := ⟨fun _ h => h, fun _ h => .inl h⟩
theorem Up.trans {A B C : Nat → Prop} {n m : Nat} (h : Up A B n) (g : Up B C m) (hm : n ≤ m) : Up A C n := ⟨fun k e => g.1 k (h.1 k e), fun k e => (g.2 k e).elim (h.2 k) (fun e => .inr (Nat.le_trans hm e))⟩
/-- What a consumer makes of one more. -/
def Told (J : (Nat → Prop) → PL → World → Prop) (Z : (Nat → Prop) → World → Prop) (C : Nat → Prop) (d : PL) (x : List UInt8 × List UInt8) (W : World) : Ending → World → Prop := fun e W' =>
  ∃ C', Only C W W' ∧ Up C C' W.heap.size ∧ (e = .returned (.bool true) ∧ J C' (d ++ [x]) W' ∨ e = .returned (.bool false) ∧ Z C' W')
/-- A consumer of a tree's pairs: C are the blocks that it may turn; its word holds whatever turns in others. -/
structure Consumer (F : Nat → Prop) (W0 : World) (total : PL) (l : Nat) (J : (Nat → Prop) → PL → World → Prop) (Z : (Nat → Prop) → World → Prop) : Prop where
  jS : ∀ C d W W', J C d W → Only (fun k => ¬ C k) W W' → J C d W'
  zS : ∀ C W W', Z C W → Only (fun k => ¬ C k) W W' → Z C W'
  jC : ∀ C d W, J C d W → ∀ k, C k → k < W.heap.size
  zC : ∀ C W, Z C W → ∀ k, C k → k < W.heap.size
  yl : ∀ m C d rest W k v lt rt p, total = d ++ (k, v) :: rest → J C d W → Nd F W (.node k v lt rt) p → (∀ k, F k → ¬ C k ∧ k < W.heap.size) → On F W0 W → YieldAt Fence.wide m Try.prog l #[p] W (Told J Z C d (k, v) W)

/-- A walk's post, with every end but the usual one made False. -/
def calm (Q : Exit → Act → World → Prop) : Exit → Act → World → Prop
  | .normal, a, w => Q .normal a w
  | _, _, _ => False
theorem wp_calm {P : Program} {c : Code} {Q : Exit → Act → World → Prop} {a : Act} {w : World} (h : c.wp P (calm Q) a w) : c.wp P Q a w :=
  wp_mono h (fun e a w h => by cases e <;> first | exact h | exact h.elim)
theorem calm_normal {Q : Exit → Act → World → Prop} {a : Act} {w : World} (h : Q .normal a w) : calm Q .normal a w := h
theorem roundPost_retR {P : Program} {RL : LoopState → Option Code → Loop} {l : Nat} {fn : FuncId} {tmps : Array Value} {ps : Array Tmp} {assign body : Code} {D : Nat} {W : World} {R : Ending → World → Prop} {a : Act}
    (hRL : RL = recL fn tmps ps assign body D) (hl : W.heap[l]? = some (.loop (RL .busy none)))
    (h : R (.returned (.bool false)) (W.putObj l (.loop (RL .done (some .ret))))) : roundPost P l R .ret a W := by subst hRL; exact roundPost_ret hl h
theorem Only.putNew {A : Nat → Prop} {a b : World} (h : Only A a b) {D : Nat} (hD : a.heap.size ≤ D) (o : Obj) : Only A a (b.putObj D o) :=
  ⟨h.os, h.tape, h.output, Nat.le_trans h.size (Nat.le_of_eq World.putObj_size.symm), fun k hk hn => (World.putObj_heap_other (by omega)).trans (h.block k hk hn)⟩
theorem Consumer.jPut {F : Nat → Prop} {W0 : World} {total : PL} {l : Nat} {J : (Nat → Prop) → PL → World → Prop} {Z : (Nat → Prop) → World → Prop} (h : Consumer F W0 total l J Z) {C : Nat → Prop} {d : PL} {W : World} (hj : J C d W) {D : Nat} (hD : ¬ C D) (o : Obj) : J C d (W.putObj D o) :=
  h.jS _ _ _ _ hj (Only.putObj (A := fun k => ¬ C k) W (b := D) hD o)
theorem Consumer.zPut {F : Nat → Prop} {W0 : World} {total : PL} {l : Nat} {J : (Nat → Prop) → PL → World → Prop} {Z : (Nat → Prop) → World → Prop} (h : Consumer F W0 total l J Z) {C : Nat → Prop} {W : World} (hj : Z C W) {D : Nat} (hD : ¬ C D) (o : Obj) : Z C (W.putObj D o) :=
  h.zS _ _ _ hj (Only.putObj (A := fun k => ¬ C k) W (b := D) hD o)
theorem box1 {w : World} (v : Value) (t : TypeId) : Blk (w.alloc (.cells #[v] t)) w.heap.size [v] t := Blk.new w [v] t rfl
set_option maxRecDepth 100000 in
set_option maxHeartbeats 2000000 in
theorem from_any (q : Option Addr) (ak : Option Addr) (n ck : Nat) (w : World) (R : Ending → World → Prop)
    (hR : R (.returned (.func (.func 46) #[] #[.pointer (some ⟨w.heap.size, 0, none⟩), .pointer (some ⟨w.heap.size + 1, 0, none⟩)])) ((w.alloc (.cells #[.pointer q] 50)).alloc (.cells #[.slice ak n ck] 30))) :
    Calls Try.prog 35 #[.pointer q, .slice ak n ck] w R := by
  go_enter Try.func35, Try.ntmps35
  go_wp2_with fail
  first | exact hR | exact fin hR rfl

/-- The word of a range's round: the loop's record is o; the box still holds the caller's yield. -/
def InJ (J : (Nat → Prop) → PL → World → Prop) (l l2 bx : Nat) (o : Obj) : (Nat → Prop) → PL → World → Prop := fun C2 d W =>
  ∃ C, (∀ k, C2 k ↔ (C k ∨ k = l2 ∨ k = bx)) ∧ J C d W ∧ ¬ C l2 ∧ ¬ C bx ∧ l2 ≠ bx ∧ l2 < W.heap.size ∧ HeapAt W l2 o ∧ Blk W bx [.func (.yield l) #[] #[]] 89
def InZ (Z : (Nat → Prop) → World → Prop) (l l2 bx : Nat) (o : Obj) : (Nat → Prop) → World → Prop := fun C2 W =>
  ∃ C, (∀ k, C2 k ↔ (C k ∨ k = l2 ∨ k = bx)) ∧ Z C W ∧ ¬ C l2 ∧ ¬ C bx ∧ l2 ≠ bx ∧ l2 < W.heap.size ∧ HeapAt W l2 o ∧ Blk W bx [.func (.yield l) #[] #[]] 89
theorem Consumer.inner {F : Nat → Prop} {W0 : World} {total : PL} {l : Nat} {J : (Nat → Prop) → PL → World → Prop} {Z : (Nat → Prop) → World → Prop} (h : Consumer F W0 total l J Z) (l2 bx : Nat) (o o2 : Obj)
    (hy : ∀ m C d rest W k v lt rt p, total = d ++ (k, v) :: rest → InJ J l l2 bx o C d W → Nd F W (.node k v lt rt) p → (∀ k, F k → ¬ C k ∧ k < W.heap.size) → On F W0 W → YieldAt Fence.wide m Try.prog l2 #[p] W (Told (InJ J l l2 bx o) (InZ Z l l2 bx o2) C d (k, v) W)) :
    Consumer F W0 total l2 (InJ J l l2 bx o) (InZ Z l l2 bx o2) where
  jS := by
    rintro C d W W' ⟨C1, h1, h2, h3, h4, h5, h6, h7, h8⟩ hO
    exact ⟨C1, h1, h.jS _ _ _ _ h2 (hO.mono fun k _ e e2 => e ((h1 k).2 (.inl e2))), h3, h4, h5, Nat.lt_of_lt_of_le h6 hO.size, (hO.block l2 h6 (fun e => e ((h1 l2).2 (.inr (.inl rfl))))).trans h7, hO.blk h8 (fun e => e ((h1 bx).2 (.inr (.inr rfl))))⟩
  zS := by
    rintro C W W' ⟨C1, h1, h2, h3, h4, h5, h6, h7, h8⟩ hO
    exact ⟨C1, h1, h.zS _ _ _ h2 (hO.mono fun k _ e e2 => e ((h1 k).2 (.inl e2))), h3, h4, h5, Nat.lt_of_lt_of_le h6 hO.size, (hO.block l2 h6 (fun e => e ((h1 l2).2 (.inr (.inl rfl))))).trans h7, hO.blk h8 (fun e => e ((h1 bx).2 (.inr (.inr rfl))))⟩
  jC := by
    rintro C d W ⟨C1, h1, h2, h3, h4, h5, h6, h7, h8⟩ k hk
    rcases (h1 k).1 hk with e | rfl | rfl
    · exact h.jC _ _ _ h2 k e
    · exact h6
    · exact h8.lt
  zC := by
    rintro C W ⟨C1, h1, h2, h3, h4, h5, h6, h7, h8⟩ k hk
    rcases (h1 k).1 hk with e | rfl | rfl
    · exact h.zC _ _ h2 k e
    · exact h6
    · exact h8.lt
  yl := hy

set_option maxRecDepth 100000 in
set_option maxHeartbeats 16000000 in
theorem from1_any (key : List UInt8) (F : Nat → Prop) (W0 : World) (total : PL) : ∀ (t : T) (l : Nat) (J : (Nat → Prop) → PL → World → Prop) (Z : (Nat → Prop) → World → Prop) (hC : Consumer F W0 total l J Z) (nb kb : Nat) (q : Option Addr) (ak : Option Addr) (ck : Nat) (C : Nat → Prop) (d rest : PL) (W : World) (m : Nat)
    (hn : Nd F W t (.pointer q)) (hk : By F W (.slice ak key.length ck) key) (hF : ∀ k, F k → ¬ C k ∧ k < W.heap.size) (cn : W.cell? ⟨nb, 0, none⟩ = some (.pointer q)) (ckb : W.cell? ⟨kb, 0, none⟩ = some (.slice ak key.length ck)) (hnb : ¬ C nb ∧ nb < W.heap.size) (hkb : ¬ C kb ∧ kb < W.heap.size)
    (hj : J C d W) (ht : total = d ++ (t.from key ++ rest)) (h0 : On F W0 W),
    CallsIn Fence.wide m Try.prog 46 #[.func (.yield l) #[] #[], .pointer (some ⟨nb, 0, none⟩), .pointer (some ⟨kb, 0, none⟩)] W
      (fun e W' => (∃ v, e = .returned v) ∧ ∃ C', Only C W W' ∧ Up C C' W.heap.size ∧ (J C' (d ++ t.from key) W' ∨ Z C' W')) := by
  intro t
  induction t with
  | nil =>
    intro l J Z hC nb kb q ak ck C d rest W m hn hk hF cn ckb hnb hkb hj ht h0
    have e : q = none := by injection hn
    subst e
    have hO : Only (fun k => ¬ C k) W (W.alloc (.cells #[.func (.yield l) #[] #[]] 89)) := Only.alloc W _
    have hO2 : Only C W (W.alloc (.cells #[.func (.yield l) #[] #[]] 89)) := Only.alloc W _
    have hr := hC.jS _ _ _ _ hj hO
    refine callsIn_of_wp_marks Try.func46 rfl trivial ?_ rfl
    refine wpIn_wide.2 ?_
    simp only [Try.ntmps46, List.size_toArray, List.length_cons, Nat.reduceAdd, Nat.reduceSub, Array.replicate_succ, Array.replicate_zero, List.push_toArray, List.append_toArray, List.nil_append, List.cons_append, List.length_nil]
    have cn1 := (World.cell?_of_block (hO2.block nb hnb.2 hnb.1)).trans cn
    go_wp2_with fail
    exact ⟨_, results_none rfl _ _ _, ⟨_, rfl⟩, C, hO2, Up.refl _ _, .inl (by rw [show T.from key .nil = [] from rfl, List.append_nil]; exact hr)⟩
  | node k v lt rt ihl ihr =>
    intro l J Z hC nb kb q ak ck C d rest W m hn hk hF cn ckb hnb hkb hj ht h0
    refine callsIn_of_wp_marks Try.func46 rfl trivial ?_ rfl
    refine wpIn_wide.2 ?_
    simp only [Try.ntmps46, List.size_toArray, List.length_cons, Nat.reduceAdd, Nat.reduceSub, Array.replicate_succ, Array.replicate_zero, List.push_toArray, List.append_toArray, List.nil_append, List.cons_append, List.length_nil]
    have hO : Only (fun k => ¬ C k) W (W.alloc (.cells #[.func (.yield l) #[] #[]] 89)) := Only.alloc W _
    have hO2 : Only C W (W.alloc (.cells #[.func (.yield l) #[] #[]] 89)) := Only.alloc W _
    have hbx := box1 (w := W) (.func (.yield l) #[] #[]) 89
    have hs1 : (W.alloc (.cells #[.func (.yield l) #[] #[]] 89)).heap.size = W.heap.size + 1 := by simp
    have cn1 := (World.cell?_of_block (hO2.block nb hnb.2 hnb.1)).trans cn
    have ck1 := (World.cell?_of_block (hO2.block kb hkb.2 hkb.1)).trans ckb
    have hon : On F W (W.alloc (.cells #[.func (.yield l) #[] #[]] 89)) := fun k hk => hO2.block k (hF k hk).2 (hF k hk).1
    have hn1 := Nd.on hon (fun _ h => h) _ hn
    have hk1 := By.on hk hon (fun _ h => h)
    have H0 := Lib.hid (fun z hz => (hon z hz).trans (h0 z hz) : ∀ z, F z → (W.alloc (.cells #[.func (.yield l) #[] #[]] 89)).heap[z]? = W0.heap[z]?)
    clear h0
    have hj1 := hC.jS _ _ _ _ hj hO
    have hF1 : ∀ k, F k → ¬ C k ∧ k < (W.alloc (.cells #[.func (.yield l) #[] #[]] 89)).heap.size := fun k h => ⟨(hF k h).1, by rw [hs1]; have := (hF k h).2; omega⟩
    have hCs := hC.jC _ _ _ hj
    clear hO hn hk cn ckb hj hon
    obtain ⟨b, kv', vv', lp, rp, e1, hb, hc, hk', hv', hl, hr⟩ := id hn1
    injection e1 with e1
    subst e1
    obtain ⟨ql, rfl⟩ := Nd.ptr hl
    obtain ⟨qr, rfl⟩ := Nd.ptr hr
    obtain ⟨c0, -, c2, c3, -, -⟩ := hc.c6
    obtain ⟨ak', ck', rfl, -, -⟩ := hk'.form
    clear hc
    go_wp2_with fail
    generalize W.alloc (.cells #[.func (.yield l) #[] #[]] 89) = W1 at *
    obtain ⟨x1, -, hkb'⟩ := By.on hk' (w' := W1.drew) (fun _ _ => rfl) (fun _ h => h)
    obtain ⟨x2, -, hkb2⟩ := By.on hk1 (w' := W1.drew) (fun _ _ => rfl) (fun _ h => h)
    have Hb1 := Lib.hid hkb'
    have Hb2 := Lib.hid hkb2
    have hj2 := hC.jS _ _ _ _ hj1 (Only.drew (A := fun k => ¬ C k) W1)
    clear hkb' hkb2 hj1
    have hCb : ∀ k, C k → k < W.heap.size := hCs
    have hFW : ∀ k, F k → k < W.heap.size := fun k h => (hF k h).2
    have hbxC : ¬ C W.heap.size := fun e => Nat.lt_irrefl _ (hCb _ e)
    have hbF := hF1 b hb
    have hK : ∀ W', Only C W1 W' → W'.cell? ⟨nb, 0, none⟩ = some (.pointer (some ⟨b, 0, none⟩)) ∧ W'.cell? ⟨kb, 0, none⟩ = some (.slice ak key.length ck) ∧ Blk W' W.heap.size [.func (.yield l) #[] #[]] 89 ∧ W'.cell? ⟨b, 2, none⟩ = some (.pointer ql) ∧ W'.cell? ⟨b, 3, none⟩ = some (.pointer qr) ∧ Nd F W' (.node k v lt rt) (.pointer (some ⟨b, 0, none⟩)) ∧ Nd F W' lt (.pointer ql) ∧ Nd F W' rt (.pointer qr) ∧ By F W' (.slice ak key.length ck) key := fun W' h => by
      have hon : On F W1 W' := fun k hk => h.block k (hF1 k hk).2 (hF1 k hk).1
      exact ⟨(World.cell?_of_block (h.block nb (by omega) hnb.1)).trans cn1, (World.cell?_of_block (h.block kb (by omega) hkb.1)).trans ck1, h.blk hbx hbxC, (World.cell?_of_block (hon b hb)).trans c2, (World.cell?_of_block (hon b hb)).trans c3, Nd.on hon (fun _ h => h) _ hn1, Nd.on hon (fun _ h => h) _ hl, Nd.on hon (fun _ h => h) _ hr, By.on hk1 hon (fun _ h => h)⟩
    refine wp_calm ?_
    refine wp_region_held_drew (S := fun w' => w' = W1.drew) (by kernel_rfl) rfl (fun hHeld => ?_)
    refine wpAnyH_take (i := 0) (v := .pointer (some ⟨b, 0, none⟩)) rfl (by kernel_rfl) (by kernel_rfl) (by kernel_rfl) (fun _ _ _ h => h) (Or.inl ⟨by rfl, ?_⟩) hHeld ?_
    · intro w' hSw; subst hSw; go_simp
    try simp only [Act.put, List.getElem_toArray, List.getElem_cons_succ, List.getElem_cons_zero, List.setIfInBounds_toArray, List.set_cons_zero, List.set_cons_succ]
    refine wpAnyH_take (i := 1) (v := .pointer (some ⟨b, 0, none⟩)) rfl (by kernel_rfl) (by kernel_rfl) (by kernel_rfl) (fun _ _ _ h => h) (Or.inl ⟨by rfl, ?_⟩) hHeld ?_
    · intro w' hSw; subst hSw; go_simp
    try simp only [Act.put, List.getElem_toArray, List.getElem_cons_succ, List.getElem_cons_zero, List.setIfInBounds_toArray, List.set_cons_zero, List.set_cons_succ]
    refine wpAnyH_take (i := 2) (v := .pointer (some ⟨b, 0, none⟩)) rfl (by kernel_rfl) (by kernel_rfl) (by kernel_rfl) (fun _ _ _ h => h) (Or.inl ⟨by rfl, ?_⟩) hHeld ?_
    · intro w' hSw; subst hSw; go_simp
    try simp only [Act.put, List.getElem_toArray, List.getElem_cons_succ, List.getElem_cons_zero, List.setIfInBounds_toArray, List.set_cons_zero, List.set_cons_succ]
    refine wpAnyH_take (i := 3) (v := .slice ak' k.length ck') rfl (by kernel_rfl) (by kernel_rfl) (by kernel_rfl) (fun _ _ _ h => h) (Or.inl ⟨by rfl, ?_⟩) hHeld ?_
    · intro w' hSw; subst hSw; go_simp
    try simp only [Act.put, List.getElem_toArray, List.getElem_cons_succ, List.getElem_cons_zero, List.setIfInBounds_toArray, List.set_cons_zero, List.set_cons_succ]
    refine wpAnyH_take (i := 4) (v := .slice ak key.length ck) rfl (by kernel_rfl) (by kernel_rfl) (by kernel_rfl) (fun _ _ _ h => h) (Or.inl ⟨by rfl, ?_⟩) hHeld ?_
    · intro w' hSw; subst hSw; go_simp
    try simp only [Act.put, List.getElem_toArray, List.getElem_cons_succ, List.getElem_cons_zero, List.setIfInBounds_toArray, List.set_cons_zero, List.set_cons_succ]
    refine wpAnyH_ready (rs := [5]) (by kernel_rfl) (by simp) ?_
    refine allCall (f := 36) (args := #[.slice ak' k.length ck', .slice ak key.length ck]) rfl (by kernel_rfl) ?_ ?_ AllReadyH.nil
    · kernel_rfl
    · refine bytes_Compare W1.drew Hb1.out Hb2.out _ ?_
      refine ⟨_, rfl, rfl, ?_⟩
      try simp only [Act.put, List.getElem_toArray, List.getElem_cons_succ, List.getElem_cons_zero, List.setIfInBounds_toArray, List.set_cons_zero, List.set_cons_succ]
      have hcc : Lib.compareBytes k key = cmpB k key := rfl
      rw [hcc]
      obtain ⟨c, hcm⟩ : ∃ c, c = cmpB k key := ⟨_, rfl⟩
      rw [← hcm]
      refine wpAnyH_take (i := 6) (v := .bool (decide (0 ≤ c))) rfl (by kernel_rfl) (by kernel_rfl) (by kernel_rfl) (fun _ _ _ h => h) (Or.inl ⟨by rfl, ?_⟩) hHeld ?_
      · intro w' hSw; subst hSw; go_simp
      try simp only [Act.put, List.getElem_toArray, List.getElem_cons_succ, List.getElem_cons_zero, List.setIfInBounds_toArray, List.set_cons_zero, List.set_cons_succ]
      refine wpAnyH_done (by kernel_rfl) (calm_normal ?_) _
      have hO1d : Only C W1 W1.drew := Only.drew W1
      have Hj := Lib.hid hj2
      have HUp := Lib.hid (Up.refl C W1.heap.size)
      clear hj2 hHeld Hb1 Hb2
      obtain ⟨Wc, eW⟩ : ∃ Wc, Wc = W1.drew := ⟨_, rfl⟩
      rw [← eW] at Hj hO1d ⊢
      have Hcm := Lib.hid hcm
      clear eW hcm
      by_cases hcmp : c < 0
      · have hge : ¬ (0 ≤ c) := by omega
        go_wp2_with fail
        have HO1 := Lib.hid hO1d
        clear hO1d
        refine wp_calm ?_
        refine wp_region_held_drew (S := fun w' => Only C W1 w') (by kernel_rfl) (HO1.out.trans (Only.drew Wc)) (fun hHeld => ?_)
        refine wpAnyH_take (i := 0) (v := .pointer (some ⟨b, 0, none⟩)) rfl (by kernel_rfl) (by kernel_rfl) (by kernel_rfl) (fun _ _ _ h => h) (Or.inl ⟨by rfl, ?_⟩) hHeld ?_
        · intro w' hSw; have kx := (hK w' hSw).1; go_simp
        try simp only [Act.put, List.getElem_toArray, List.getElem_cons_succ, List.getElem_cons_zero, List.setIfInBounds_toArray, List.set_cons_zero, List.set_cons_succ]
        refine wpAnyH_take (i := 1) (v := .pointer (some ⟨b, 0, none⟩)) rfl (by kernel_rfl) (by kernel_rfl) (by kernel_rfl) (fun _ _ _ h => h) (Or.inl ⟨by rfl, ?_⟩) hHeld ?_
        · intro w' hSw; go_simp
        try simp only [Act.put, List.getElem_toArray, List.getElem_cons_succ, List.getElem_cons_zero, List.setIfInBounds_toArray, List.set_cons_zero, List.set_cons_succ]
        refine wpAnyH_take (i := 2) (v := .pointer (some ⟨b, 3, none⟩)) rfl (by kernel_rfl) (by kernel_rfl) (by kernel_rfl) (fun _ _ _ h => h) (Or.inl ⟨by rfl, ?_⟩) hHeld ?_
        · intro w' hSw; go_simp
        try simp only [Act.put, List.getElem_toArray, List.getElem_cons_succ, List.getElem_cons_zero, List.setIfInBounds_toArray, List.set_cons_zero, List.set_cons_succ]
        refine wpAnyH_take (i := 3) (v := .pointer qr) rfl (by kernel_rfl) (by kernel_rfl) (by kernel_rfl) (fun _ _ _ h => h) (Or.inl ⟨by rfl, ?_⟩) hHeld ?_
        · intro w' hSw; have kx := (hK w' hSw).2.2.2.2.1; go_simp
        try simp only [Act.put, List.getElem_toArray, List.getElem_cons_succ, List.getElem_cons_zero, List.setIfInBounds_toArray, List.set_cons_zero, List.set_cons_succ]
        refine wpAnyH_take (i := 4) (v := .slice ak key.length ck) rfl (by kernel_rfl) (by kernel_rfl) (by kernel_rfl) (fun _ _ _ h => h) (Or.inl ⟨by rfl, ?_⟩) hHeld ?_
        · intro w' hSw; have kx := (hK w' hSw).2.1; go_simp
        try simp only [Act.put, List.getElem_toArray, List.getElem_cons_succ, List.getElem_cons_zero, List.setIfInBounds_toArray, List.set_cons_zero, List.set_cons_succ]
        refine wpAnyH_ready (rs := [5]) (by kernel_rfl) (by simp) ?_
        refine allCall (f := 35) (args := #[.pointer qr, .slice ak key.length ck]) rfl (by kernel_rfl) ?_ ?_ AllReadyH.nil
        · kernel_rfl
        · refine from_any qr ak key.length ck Wc.drew _ ?_
          refine ⟨_, rfl, (HO1.out.trans (Only.drew Wc)).trans ((Only.alloc Wc.drew _).trans (Only.alloc _ _)), ?_⟩
          try simp only [Act.put, List.getElem_toArray, List.getElem_cons_succ, List.getElem_cons_zero, List.setIfInBounds_toArray, List.set_cons_zero, List.set_cons_succ]
          refine wpAnyH_done (by kernel_rfl) (calm_normal ?_) _
          go_wp2_with fail
          have hqb : Blk ((Wc.drew.alloc (.cells #[.pointer qr] 50)).alloc (.cells #[.slice ak key.length ck] 30)) Wc.heap.size [.pointer qr] 50 := (Blk.new Wc.drew [.pointer qr] 50 rfl).alloc _
          have hkbk : Blk ((Wc.drew.alloc (.cells #[.pointer qr] 50)).alloc (.cells #[.slice ak key.length ck] 30)) (Wc.heap.size + 1) [.slice ak key.length ck] 30 := Blk.new (Wc.drew.alloc (.cells #[.pointer qr] 50)) [.slice ak key.length ck] 30 (by simp)
          have hse : ((Wc.drew.alloc (.cells #[.pointer qr] 50)).alloc (.cells #[.slice ak key.length ck] 30)).heap.size = Wc.heap.size + 2 := by simp
          have hBe : Below Wc.heap.size Wc ((Wc.drew.alloc (.cells #[.pointer qr] 50)).alloc (.cells #[.slice ak key.length ck] 30)) := ((Below.drew (Below.refl _ _)).alloc (Nat.le_refl _) _).alloc (by simp) _
          generalize (Wc.drew.alloc (.cells #[.pointer qr] 50)).alloc (.cells #[.slice ak key.length ck] 30) = We at *
          refine wp_rangeFuncR 1 (gf := 46) rfl (enters_of Try.func46 (by kernel_rfl) rfl) (fun fn RL hRL => ?_)
          have HRL := Lib.hid hRL
          clear hRL
          have hB5 : Below We.heap.size We ((We.alloc (.deferred (some []))).alloc (.loop (RL .ready none))) := ((Below.refl _ _).alloc (Nat.le_refl _) _).alloc (by simp) _
          have hlD : ((We.alloc (.deferred (some []))).alloc (.loop (RL .ready none))).heap[We.heap.size]? = some (.deferred (some [])) := (Below.heap_alloc _ _ _ (by simp)).trans (World.alloc_heap_new We _)
          have hlL : ((We.alloc (.deferred (some []))).alloc (.loop (RL .ready none))).heap[We.heap.size + 1]? = some (.loop (RL .ready none)) := by
            have := World.alloc_heap_new (We.alloc (.deferred (some []))) (.loop (RL .ready none))
            rwa [World.size_alloc] at this
          have hs5 : ((We.alloc (.deferred (some []))).alloc (.loop (RL .ready none))).heap.size = We.heap.size + 2 := by simp
          generalize (We.alloc (.deferred (some []))).alloc (.loop (RL .ready none)) = W5 at *
          have hBc5 : Below Wc.heap.size Wc W5 := hBe.trans (hB5.mono (by omega))
          have hO5 : Only C W1 W5 := HO1.out.trans (Below.only hBc5)
          have hs1c := HO1.out.size
          have hj5 := hC.jS _ _ _ _ Hj.out (Below.only hBc5)
          have hCs5 := hC.jC _ _ _ Hj.out
          have hup1 := HUp.out
          obtain ⟨L, eL⟩ : ∃ L, L = We.heap.size + 1 := ⟨_, rfl⟩
          have hLC : ¬ C L := fun e => by have := hCs5 _ e; omega
          have hbC : ¬ C W.heap.size := fun e => by
            rcases hup1.2 _ e with e | e
            · exact hbxC e
            · omega
          rw [← eL] at hlL ⊢
          have hF5 : ∀ k, F k → ¬ (C k ∨ k = L ∨ k = W.heap.size) ∧ k < W5.heap.size := fun k hk => by
            have h1 := hF1 k hk
            have h2 := hFW k hk
            refine ⟨fun e => ?_, by omega⟩
            rcases e with e | e | e
            · rcases hup1.2 _ e with e | e
              · exact h1.1 e
              · omega
            · omega
            · omega
          have hk5 := hK W5 hO5
          have hjw : InJ J l L W.heap.size (.loop (RL .ready none)) (fun k => C k ∨ k = L ∨ k = W.heap.size) (d) W5 := ⟨C, fun _ => Iff.rfl, hj5, hLC, hbC, by omega, by omega, hlL, hk5.2.2.1⟩
          refine (ihr L (InJ J l L W.heap.size (.loop (RL .ready none))) (InZ Z l L W.heap.size (.loop (RL .done (some .ret)))) (hC.inner L W.heap.size _ _ ?hy) Wc.heap.size (Wc.heap.size + 1) qr ak ck (fun k => C k ∨ k = L ∨ k = W.heap.size) (d) (rest) W5 1 hk5.2.2.2.2.2.2.2.1 hk5.2.2.2.2.2.2.2.2 hF5 ((hqb.below hB5 (by omega)).cells.c1) ((hkbk.below hB5 (by omega)).cells.c1) ⟨?hnb, by omega⟩ ⟨?hkb, by omega⟩ hjw ?ht ?h0).mono ?hend
          case hnb => rintro (e | e | e)
                      · have := hCs5 _ e; omega
                      · omega
                      · omega
          case hkb => rintro (e | e | e)
                      · have := hCs5 _ e; omega
                      · omega
                      · omega
          case ht => rw [ht, T.from, ← Hcm.out, if_pos hcmp, List.nil_append]
          case h0 => exact fun z hz => (hO5.block z (hF1 z hz).2 (hF1 z hz).1).trans (H0.out z hz)
          case hy =>
            intro m2 C2 d2 rest2 Wy k2 v2 lt2 rt2 p2 he2 hj2 hn2 hF2 hw2
            have HeL := Lib.hid eL
            have Hse := Lib.hid hse
            have Hs5 := Lib.hid hs5
            have Hs1 := Lib.hid hs1
            clear eL hse hs5 hs1
            obtain ⟨C3, hiff, hjy, hl2, hbx2, hne, hlt2, hhp, hbb⟩ := hj2
            obtain ⟨b2, -, -, -, -, rfl, -⟩ := id hn2
            refine yieldAt_recR HRL.out hhp rfl ?_
            have Hhp := Lib.hid hhp
            have Hn2 := Lib.hid hn2
            have Hjy := Lib.hid hjy
            have Hbb := Lib.hid hbb
            clear hn2 hhp hjy hbb
            gi_wp2
            refine ⟨Hhp.out, ?_⟩
            have ho3 : Only (· = L) Wy (Wy.putObj L (.loop (RL .busy none))) := Only.putObj (A := (· = L)) Wy (b := L) rfl _
            have hl3 : (Wy.putObj L (.loop (RL .busy none))).heap[L]? = some (.loop (RL .busy none)) := World.putObj_heap_same (by omega)
            have hs3 : (Wy.putObj L (.loop (RL .busy none))).heap.size = Wy.heap.size := World.putObj_size
            generalize Wy.putObj L (.loop (RL .busy none)) = W3 at *
            have hj3 := hC.jS _ _ _ _ Hjy.out (ho3.mono (fun k _ e e2 => hl2 (e ▸ e2)))
            have hb3 := ho3.blk Hbb.out (Ne.symm hne)
            have c3 := hb3.cells.c1
            have hF3 : ∀ k, F k → ¬ C3 k ∧ k < W3.heap.size := fun k hk => ⟨fun e => (hF2 k hk).1 ((hiff k).2 (.inl e)), by rw [hs3]; exact (hF2 k hk).2⟩
            have hn3 := Nd.on (w' := W3) (fun k hk => ho3.block k (hF2 k hk).2 (fun e => (hF2 k hk).1 ((hiff k).2 (.inr (.inl e))))) (fun _ h => h) _ Hn2.out
            obtain ⟨yf, yt, ya, yb, hy, hR⟩ := hC.yl (m2 - 1) C3 d2 rest2 W3 k2 v2 lt2 rt2 _ he2 hj3 hn3 hF3 (fun z hz => (ho3.block z (hF2 z hz).2 (fun e => (hF2 z hz).1 ((hiff z).2 (.inr (.inl e))))).trans (hw2 z hz))
            have Hl3 := Lib.hid hl3
            have Hb3 := Lib.hid hb3
            have Ho3 := Lib.hid ho3
            have Hs3 := Lib.hid hs3
            clear hl3 hb3 ho3 hj3 hn3 hF3 hs3
            gi_wp2_with fail
            refine ⟨fun h => by simp [Fence.wide] at h, ?_⟩
            refine RoundIn.mono (show RoundIn (Fence.wide.inRound L) (m2 - 1) Try.prog l yf yt ya yb W3 _ from hR) ?_
            rintro e W4 ⟨C4, ho4, hup4, ⟨rfl, hj4⟩ | ⟨rfl, hz4⟩⟩
            · have hs3 := Hs3.out
              have hl4 := (ho4.block L (by omega) hl2).trans Hl3.out
              have hb4 := ho4.blk Hb3.out hbx2
              have hs4 := ho4.size
              have hnl : ¬ C4 L := fun e => (hup4.2 L e).elim hl2 (fun h => by omega)
              have hnb4 : ¬ C4 W.heap.size := fun e => (hup4.2 _ e).elim hbx2 (fun h => by have := Hb3.out.lt; omega)
              have hO : Only (· = L) W4 (W4.putObj L (.loop (RL .ready none))) := Only.putObj (A := (· = L)) _ (b := L) rfl _
              have hl5 : (W4.putObj L (.loop (RL .ready none))).heap[L]? = some (.loop (RL .ready none)) := World.putObj_heap_same (by omega)
              have hs5 : (W4.putObj L (.loop (RL .ready none))).heap.size = W4.heap.size := World.putObj_size
              have hJZ5 := hC.jS _ _ _ _ hj4 (hO.mono (fun k _ e e2 => hnl (e ▸ e2)))
              have hb5 := hO.blk hb4 (Ne.symm hne)
              have hO2 : Only C2 Wy (W4.putObj L (.loop (RL .ready none))) := ((Ho3.out.mono (A' := C2) (fun k _ e => (hiff k).2 (.inr (.inl e)))).trans (ho4.mono (A' := C2) (fun k _ e => (hiff k).2 (.inl e)))).trans (hO.mono (A' := C2) (fun k _ e => (hiff k).2 (.inr (.inl e))))
              have hUp2 : Up C2 (fun k => C4 k ∨ k = L ∨ k = W.heap.size) Wy.heap.size := ⟨fun k e => ((hiff k).1 e).imp (hup4.1 k) id, fun k e => by
                rcases e with e | e | e
                · rcases hup4.2 k e with e | e
                  · exact .inl ((hiff k).2 (.inl e))
                  · exact .inr (by omega)
                · exact .inl ((hiff k).2 (.inr (.inl e)))
                · exact .inl ((hiff k).2 (.inr (.inr e)))⟩
              have hfinal : Told (InJ J l L W.heap.size (.loop (RL .ready none))) (InZ Z l L W.heap.size (.loop (RL .done (some .ret)))) C2 d2 (k2, v2) Wy (.returned (.bool true)) (W4.putObj L (.loop (RL .ready none))) :=
                ⟨fun k => C4 k ∨ k = L ∨ k = W.heap.size, hO2, hUp2, .inl ⟨rfl, C4, fun _ => Iff.rfl, hJZ5, hnl, hnb4, hne, by omega, hl5, hb5⟩⟩
              have Hfin := Lib.hid hfinal
              have Hl4 := Lib.hid hl4
              clear hs3 hb4 hs4 hO hl5 hs5 hJZ5 hb5 hO2 hUp2 hfinal hl4 hj4 ho4 hup4 hnl hnb4
              gi_wp2_with fail
              exact roundPost_normalR HRL.out Hl4.out Hfin.out
            · have hs3 := Hs3.out
              have hl4 := (ho4.block L (by omega) hl2).trans Hl3.out
              have hb4 := ho4.blk Hb3.out hbx2
              have hs4 := ho4.size
              have hnl : ¬ C4 L := fun e => (hup4.2 L e).elim hl2 (fun h => by omega)
              have hnb4 : ¬ C4 W.heap.size := fun e => (hup4.2 _ e).elim hbx2 (fun h => by have := Hb3.out.lt; omega)
              have hO : Only (· = L) W4 (W4.putObj L (.loop (RL .done (some .ret)))) := Only.putObj (A := (· = L)) _ (b := L) rfl _
              have hl5 : (W4.putObj L (.loop (RL .done (some .ret)))).heap[L]? = some (.loop (RL .done (some .ret))) := World.putObj_heap_same (by omega)
              have hs5 : (W4.putObj L (.loop (RL .done (some .ret)))).heap.size = W4.heap.size := World.putObj_size
              have hJZ5 := hC.zS _ _ _ hz4 (hO.mono (fun k _ e e2 => hnl (e ▸ e2)))
              have hb5 := hO.blk hb4 (Ne.symm hne)
              have hO2 : Only C2 Wy (W4.putObj L (.loop (RL .done (some .ret)))) := ((Ho3.out.mono (A' := C2) (fun k _ e => (hiff k).2 (.inr (.inl e)))).trans (ho4.mono (A' := C2) (fun k _ e => (hiff k).2 (.inl e)))).trans (hO.mono (A' := C2) (fun k _ e => (hiff k).2 (.inr (.inl e))))
              have hUp2 : Up C2 (fun k => C4 k ∨ k = L ∨ k = W.heap.size) Wy.heap.size := ⟨fun k e => ((hiff k).1 e).imp (hup4.1 k) id, fun k e => by
                rcases e with e | e | e
                · rcases hup4.2 k e with e | e
                  · exact .inl ((hiff k).2 (.inl e))
                  · exact .inr (by omega)
                · exact .inl ((hiff k).2 (.inr (.inl e)))
                · exact .inl ((hiff k).2 (.inr (.inr e)))⟩
              have hfinal : Told (InJ J l L W.heap.size (.loop (RL .ready none))) (InZ Z l L W.heap.size (.loop (RL .done (some .ret)))) C2 d2 (k2, v2) Wy (.returned (.bool false)) (W4.putObj L (.loop (RL .done (some .ret)))) :=
                ⟨fun k => C4 k ∨ k = L ∨ k = W.heap.size, hO2, hUp2, .inr ⟨rfl, C4, fun _ => Iff.rfl, hJZ5, hnl, hnb4, hne, by omega, hl5, hb5⟩⟩
              have Hfin := Lib.hid hfinal
              have Hl4 := Lib.hid hl4
              clear hs3 hb4 hs4 hO hl5 hs5 hJZ5 hb5 hO2 hUp2 hfinal hl4 hz4 ho4 hup4 hnl hnb4
              gi_wp2_with fail
              exact roundPost_retR HRL.out Hl4.out Hfin.out
          case hend =>
            rintro e W6 ⟨⟨v6, rfl⟩, C6, ho6, hup6, hx6⟩
            have hDn : ¬ (C We.heap.size ∨ We.heap.size = L ∨ We.heap.size = W.heap.size) := by
              rintro (e | e | e)
              · have := hCs5 _ e; omega
              · omega
              · omega
            have hD6 : W6.heap[We.heap.size]? = some (.deferred (some [])) := (ho6.block We.heap.size (by omega) hDn).trans hlD
            
            rcases hx6 with ⟨C7, hiff, hj6, hl6, hbx6, hne, hlt6, hhp, hbb⟩ | ⟨C7, hiff, hz6, hl6, hbx6, hne, hlt6, hhp, hbb⟩
            · refine ⟨⟨v6, rfl⟩, .ready, none, by simp, hhp, ?_⟩
              have hO6 : Only C W1 W6 := ⟨ho6.os.trans hO5.os, ho6.tape.trans hO5.tape, ho6.output.trans hO5.output, Nat.le_trans hO5.size ho6.size, fun z hz hn => by
                by_cases ez : z = W.heap.size
                · rw [ez]; exact hbb.trans hbx.symm
                · refine (ho6.block z (by omega) ?_).trans (hO5.block z hz hn)
                  rintro (e | e | e)
                  · exact (hup1.2 _ e).elim hn (fun h => by omega)
                  · omega
                  · exact ez e⟩
              have hU6 : Up C C7 W1.heap.size := ⟨fun z hz => by
                have h1 := hup6.1 z (.inl (hup1.1 z hz))
                have h2 := hCb z hz
                rcases (hiff z).1 h1 with e | e | e
                · exact e
                · omega
                · omega, fun z hz => by
                rcases hup6.2 z ((hiff z).2 (.inl hz)) with e | e
                · rcases e with e | e | e
                  · exact hup1.2 z e
                  · exact .inr (by omega)
                  · exact absurd (e ▸ hz) hbx6
                · exact .inr (by omega)⟩
              have hO7 : Only (· = L) W6 (W6.putObj L (.loop (RL .exhausted none))) := Only.putObj (A := (· = L)) _ (b := L) rfl _
              have hs7 : (W6.putObj L (.loop (RL .exhausted none))).heap.size = W6.heap.size := World.putObj_size
              have hj7 := hC.jS _ _ _ _ hj6 (hO7.mono (fun z _ e e2 => hl6 (e ▸ e2)))
              have hD7 : (W6.putObj L (.loop (RL .exhausted none))).heap[We.heap.size]? = some (.deferred (some [])) := (hO7.block _ (by omega) (by omega)).trans hD6
              have hO17 : Only C W1 (W6.putObj L (.loop (RL .exhausted none))) := ⟨hO7.os.trans hO6.os, hO7.tape.trans hO6.tape, hO7.output.trans hO6.output, Nat.le_trans hO6.size hO7.size, fun z hz hn => (hO7.block z (by omega) (by omega)).trans (hO6.block z hz hn)⟩
              have hDlt : We.heap.size < (W6.putObj L (.loop (RL .exhausted none))).heap.size := by omega
              have hDC : ¬ C7 We.heap.size := fun e => (hup6.2 _ ((hiff _).2 (.inl e))).elim hDn (fun h => by omega)
              have hDbx : We.heap.size ≠ W.heap.size := by omega
              have hDg : W1.heap.size ≤ We.heap.size := by omega
              
              generalize W6.putObj L (.loop (RL .exhausted none)) = W7 at *
              obtain ⟨D, eD⟩ : ∃ D, D = We.heap.size := ⟨_, rfl⟩
              rw [← eD] at hD7 hDlt hDC hDbx hDg  ⊢
              have HJ7 := Lib.hid hj7
              have HO7 := Lib.hid hO17
              have HU7 := Lib.hid hU6
              have HD7 := Lib.hid hD7
              
              have Hs1 := Lib.hid hs1
              clear hs7 hO7 hU6 hO6 hD6 hD7 hO17 hj7 eD hhp hbb hlt6 hj6 hiff hup6 ho6 hDn hjw hk5 hF5 hLC hbC hlL hlD hs5 hse hB5 hBe hqb hkbk hBc5 hO5 hj5 hup1 hCs5 hs1
              show Exit.inBlock 2 _ Exit.normal _ W7
              have hUf : Up C C7 W.heap.size := ⟨HU7.out.1, fun z e => (HU7.out.2 z e).imp id (fun h => by have := Hs1.out; omega)⟩
              have hfin : Only C W (W7.putObj D (.deferred none)) ∧ ∃ C', Up C C' W.heap.size ∧ (J C' (d ++ T.from key (.node k v lt rt)) (W7.putObj D (.deferred none)) ∨ Z C' (W7.putObj D (.deferred none))) :=
                ⟨hO2.trans (HO7.out.putNew hDg _), C7, hUf, .inl ((show d ++ rt.from key = d ++ T.from key (.node k v lt rt) by rw [T.from, ← Hcm.out, if_pos hcmp, List.nil_append]) ▸ hC.jPut HJ7.out hDC _)⟩
              have Hfin := Lib.hid hfin
              clear hfin hUf
              go_wp2_with fail
              refine ⟨by simp, .inl ⟨_, _, rfl, run_takeDeferred HD7.out, ?_⟩⟩
              exact ⟨_, results_none rfl _ _ _, ⟨_, rfl⟩, Hfin.out⟩
            · refine ⟨⟨v6, rfl⟩, .done, (some .ret), by simp, hhp, ?_⟩
              have hO6 : Only C W1 W6 := ⟨ho6.os.trans hO5.os, ho6.tape.trans hO5.tape, ho6.output.trans hO5.output, Nat.le_trans hO5.size ho6.size, fun z hz hn => by
                by_cases ez : z = W.heap.size
                · rw [ez]; exact hbb.trans hbx.symm
                · refine (ho6.block z (by omega) ?_).trans (hO5.block z hz hn)
                  rintro (e | e | e)
                  · exact (hup1.2 _ e).elim hn (fun h => by omega)
                  · omega
                  · exact ez e⟩
              have hU6 : Up C C7 W1.heap.size := ⟨fun z hz => by
                have h1 := hup6.1 z (.inl (hup1.1 z hz))
                have h2 := hCb z hz
                rcases (hiff z).1 h1 with e | e | e
                · exact e
                · omega
                · omega, fun z hz => by
                rcases hup6.2 z ((hiff z).2 (.inl hz)) with e | e
                · rcases e with e | e | e
                  · exact hup1.2 z e
                  · exact .inr (by omega)
                  · exact absurd (e ▸ hz) hbx6
                · exact .inr (by omega)⟩
              have hO7 : Only (· = L) W6 (W6.putObj L (.loop (RL .exhausted (some .ret)))) := Only.putObj (A := (· = L)) _ (b := L) rfl _
              have hs7 : (W6.putObj L (.loop (RL .exhausted (some .ret)))).heap.size = W6.heap.size := World.putObj_size
              have hj7 := hC.zS _ _ _ hz6 (hO7.mono (fun z _ e e2 => hl6 (e ▸ e2)))
              have hD7 : (W6.putObj L (.loop (RL .exhausted (some .ret)))).heap[We.heap.size]? = some (.deferred (some [])) := (hO7.block _ (by omega) (by omega)).trans hD6
              have hO17 : Only C W1 (W6.putObj L (.loop (RL .exhausted (some .ret)))) := ⟨hO7.os.trans hO6.os, hO7.tape.trans hO6.tape, hO7.output.trans hO6.output, Nat.le_trans hO6.size hO7.size, fun z hz hn => (hO7.block z (by omega) (by omega)).trans (hO6.block z hz hn)⟩
              have hDlt : We.heap.size < (W6.putObj L (.loop (RL .exhausted (some .ret)))).heap.size := by omega
              have hDC : ¬ C7 We.heap.size := fun e => (hup6.2 _ ((hiff _).2 (.inl e))).elim hDn (fun h => by omega)
              have hDbx : We.heap.size ≠ W.heap.size := by omega
              have hDg : W1.heap.size ≤ We.heap.size := by omega
              
              dsimp only
              generalize W6.putObj L (.loop (RL .exhausted (some .ret))) = W7 at *
              obtain ⟨D, eD⟩ : ∃ D, D = We.heap.size := ⟨_, rfl⟩
              rw [← eD] at hD7 hDlt hDC hDbx hDg  ⊢
              have HJ7 := Lib.hid hj7
              have HO7 := Lib.hid hO17
              have HU7 := Lib.hid hU6
              have HD7 := Lib.hid hD7
              
              have Hs1 := Lib.hid hs1
              clear hs7 hO7 hU6 hO6 hD6 hD7 hO17 hj7 eD hhp hbb hlt6 hz6 hiff hup6 ho6 hDn hjw hk5 hF5 hLC hbC hlL hlD hs5 hse hB5 hBe hqb hkbk hBc5 hO5 hj5 hup1 hCs5 hs1
              have hUf : Up C C7 W.heap.size := ⟨HU7.out.1, fun z e => (HU7.out.2 z e).imp id (fun h => by have := Hs1.out; omega)⟩
              have hfin : Only C W (W7.putObj D (.deferred none)) ∧ ∃ C', Up C C' W.heap.size ∧ (J C' (d ++ T.from key (.node k v lt rt)) (W7.putObj D (.deferred none)) ∨ Z C' (W7.putObj D (.deferred none))) :=
                ⟨hO2.trans (HO7.out.putNew hDg _), C7, hUf, .inr (hC.zPut HJ7.out hDC _)⟩
              have Hfin := Lib.hid hfin
              clear hfin hUf
              go_wp2_with fail
              refine ⟨by simp, .inl ⟨_, _, rfl, run_takeDeferred HD7.out, ?_⟩⟩
              exact ⟨_, results_none rfl _ _ _, ⟨_, rfl⟩, Hfin.out⟩

      · have hge : 0 ≤ c := by omega
        go_wp2_with fail
        have HO1 := Lib.hid hO1d
        clear hO1d
        refine wp_calm ?_
        refine wp_region_held_drew (S := fun w' => Only C W1 w') (by kernel_rfl) (HO1.out.trans (Only.drew Wc)) (fun hHeld => ?_)
        refine wpAnyH_take (i := 0) (v := .pointer (some ⟨b, 0, none⟩)) rfl (by kernel_rfl) (by kernel_rfl) (by kernel_rfl) (fun _ _ _ h => h) (Or.inl ⟨by rfl, ?_⟩) hHeld ?_
        · intro w' hSw; have kx := (hK w' hSw).1; go_simp
        try simp only [Act.put, List.getElem_toArray, List.getElem_cons_succ, List.getElem_cons_zero, List.setIfInBounds_toArray, List.set_cons_zero, List.set_cons_succ]
        refine wpAnyH_take (i := 1) (v := .pointer (some ⟨b, 0, none⟩)) rfl (by kernel_rfl) (by kernel_rfl) (by kernel_rfl) (fun _ _ _ h => h) (Or.inl ⟨by rfl, ?_⟩) hHeld ?_
        · intro w' hSw; go_simp
        try simp only [Act.put, List.getElem_toArray, List.getElem_cons_succ, List.getElem_cons_zero, List.setIfInBounds_toArray, List.set_cons_zero, List.set_cons_succ]
        refine wpAnyH_take (i := 2) (v := .pointer (some ⟨b, 2, none⟩)) rfl (by kernel_rfl) (by kernel_rfl) (by kernel_rfl) (fun _ _ _ h => h) (Or.inl ⟨by rfl, ?_⟩) hHeld ?_
        · intro w' hSw; go_simp
        try simp only [Act.put, List.getElem_toArray, List.getElem_cons_succ, List.getElem_cons_zero, List.setIfInBounds_toArray, List.set_cons_zero, List.set_cons_succ]
        refine wpAnyH_take (i := 3) (v := .pointer ql) rfl (by kernel_rfl) (by kernel_rfl) (by kernel_rfl) (fun _ _ _ h => h) (Or.inl ⟨by rfl, ?_⟩) hHeld ?_
        · intro w' hSw; have kx := (hK w' hSw).2.2.2.1; go_simp
        try simp only [Act.put, List.getElem_toArray, List.getElem_cons_succ, List.getElem_cons_zero, List.setIfInBounds_toArray, List.set_cons_zero, List.set_cons_succ]
        refine wpAnyH_take (i := 4) (v := .slice ak key.length ck) rfl (by kernel_rfl) (by kernel_rfl) (by kernel_rfl) (fun _ _ _ h => h) (Or.inl ⟨by rfl, ?_⟩) hHeld ?_
        · intro w' hSw; have kx := (hK w' hSw).2.1; go_simp
        try simp only [Act.put, List.getElem_toArray, List.getElem_cons_succ, List.getElem_cons_zero, List.setIfInBounds_toArray, List.set_cons_zero, List.set_cons_succ]
        refine wpAnyH_ready (rs := [5]) (by kernel_rfl) (by simp) ?_
        refine allCall (f := 35) (args := #[.pointer ql, .slice ak key.length ck]) rfl (by kernel_rfl) ?_ ?_ AllReadyH.nil
        · kernel_rfl
        · refine from_any ql ak key.length ck Wc.drew _ ?_
          refine ⟨_, rfl, (HO1.out.trans (Only.drew Wc)).trans ((Only.alloc Wc.drew _).trans (Only.alloc _ _)), ?_⟩
          try simp only [Act.put, List.getElem_toArray, List.getElem_cons_succ, List.getElem_cons_zero, List.setIfInBounds_toArray, List.set_cons_zero, List.set_cons_succ]
          refine wpAnyH_done (by kernel_rfl) (calm_normal ?_) _
          go_wp2_with fail
          have hqb : Blk ((Wc.drew.alloc (.cells #[.pointer ql] 50)).alloc (.cells #[.slice ak key.length ck] 30)) Wc.heap.size [.pointer ql] 50 := (Blk.new Wc.drew [.pointer ql] 50 rfl).alloc _
          have hkbk : Blk ((Wc.drew.alloc (.cells #[.pointer ql] 50)).alloc (.cells #[.slice ak key.length ck] 30)) (Wc.heap.size + 1) [.slice ak key.length ck] 30 := Blk.new (Wc.drew.alloc (.cells #[.pointer ql] 50)) [.slice ak key.length ck] 30 (by simp)
          have hse : ((Wc.drew.alloc (.cells #[.pointer ql] 50)).alloc (.cells #[.slice ak key.length ck] 30)).heap.size = Wc.heap.size + 2 := by simp
          have hBe : Below Wc.heap.size Wc ((Wc.drew.alloc (.cells #[.pointer ql] 50)).alloc (.cells #[.slice ak key.length ck] 30)) := ((Below.drew (Below.refl _ _)).alloc (Nat.le_refl _) _).alloc (by simp) _
          generalize (Wc.drew.alloc (.cells #[.pointer ql] 50)).alloc (.cells #[.slice ak key.length ck] 30) = We at *
          refine wp_rangeFuncR 1 (gf := 46) rfl (enters_of Try.func46 (by kernel_rfl) rfl) (fun fn RL hRL => ?_)
          have HRL := Lib.hid hRL
          clear hRL
          have hB5 : Below We.heap.size We ((We.alloc (.deferred (some []))).alloc (.loop (RL .ready none))) := ((Below.refl _ _).alloc (Nat.le_refl _) _).alloc (by simp) _
          have hlD : ((We.alloc (.deferred (some []))).alloc (.loop (RL .ready none))).heap[We.heap.size]? = some (.deferred (some [])) := (Below.heap_alloc _ _ _ (by simp)).trans (World.alloc_heap_new We _)
          have hlL : ((We.alloc (.deferred (some []))).alloc (.loop (RL .ready none))).heap[We.heap.size + 1]? = some (.loop (RL .ready none)) := by
            have := World.alloc_heap_new (We.alloc (.deferred (some []))) (.loop (RL .ready none))
            rwa [World.size_alloc] at this
          have hs5 : ((We.alloc (.deferred (some []))).alloc (.loop (RL .ready none))).heap.size = We.heap.size + 2 := by simp
          generalize (We.alloc (.deferred (some []))).alloc (.loop (RL .ready none)) = W5 at *
          have hBc5 : Below Wc.heap.size Wc W5 := hBe.trans (hB5.mono (by omega))
          have hO5 : Only C W1 W5 := HO1.out.trans (Below.only hBc5)
          have hs1c := HO1.out.size
          have hj5 := hC.jS _ _ _ _ Hj.out (Below.only hBc5)
          have hCs5 := hC.jC _ _ _ Hj.out
          have hup1 := HUp.out
          obtain ⟨L, eL⟩ : ∃ L, L = We.heap.size + 1 := ⟨_, rfl⟩
          have hLC : ¬ C L := fun e => by have := hCs5 _ e; omega
          have hbC : ¬ C W.heap.size := fun e => by
            rcases hup1.2 _ e with e | e
            · exact hbxC e
            · omega
          rw [← eL] at hlL ⊢
          have hF5 : ∀ k, F k → ¬ (C k ∨ k = L ∨ k = W.heap.size) ∧ k < W5.heap.size := fun k hk => by
            have h1 := hF1 k hk
            have h2 := hFW k hk
            refine ⟨fun e => ?_, by omega⟩
            rcases e with e | e | e
            · rcases hup1.2 _ e with e | e
              · exact h1.1 e
              · omega
            · omega
            · omega
          have hk5 := hK W5 hO5
          have hjw : InJ J l L W.heap.size (.loop (RL .ready none)) (fun k => C k ∨ k = L ∨ k = W.heap.size) (d) W5 := ⟨C, fun _ => Iff.rfl, hj5, hLC, hbC, by omega, by omega, hlL, hk5.2.2.1⟩
          refine (ihl L (InJ J l L W.heap.size (.loop (RL .ready none))) (InZ Z l L W.heap.size (.loop (RL .done (some .ret)))) (hC.inner L W.heap.size _ _ ?hy) Wc.heap.size (Wc.heap.size + 1) ql ak ck (fun k => C k ∨ k = L ∨ k = W.heap.size) (d) ((k, v) :: (rt.from key ++ rest)) W5 1 hk5.2.2.2.2.2.2.1 hk5.2.2.2.2.2.2.2.2 hF5 ((hqb.below hB5 (by omega)).cells.c1) ((hkbk.below hB5 (by omega)).cells.c1) ⟨?hnb, by omega⟩ ⟨?hkb, by omega⟩ hjw ?ht ?h0).mono ?hend
          case hnb => rintro (e | e | e)
                      · have := hCs5 _ e; omega
                      · omega
                      · omega
          case hkb => rintro (e | e | e)
                      · have := hCs5 _ e; omega
                      · omega
                      · omega
          case ht => rw [ht, T.from, ← Hcm.out, if_neg (Int.not_lt.2 hge)]; simp
          case h0 => exact fun z hz => (hO5.block z (hF1 z hz).2 (hF1 z hz).1).trans (H0.out z hz)
          case hy =>
            intro m2 C2 d2 rest2 Wy k2 v2 lt2 rt2 p2 he2 hj2 hn2 hF2 hw2
            have HeL := Lib.hid eL
            have Hse := Lib.hid hse
            have Hs5 := Lib.hid hs5
            have Hs1 := Lib.hid hs1
            clear eL hse hs5 hs1
            obtain ⟨C3, hiff, hjy, hl2, hbx2, hne, hlt2, hhp, hbb⟩ := hj2
            obtain ⟨b2, -, -, -, -, rfl, -⟩ := id hn2
            refine yieldAt_recR HRL.out hhp rfl ?_
            have Hhp := Lib.hid hhp
            have Hn2 := Lib.hid hn2
            have Hjy := Lib.hid hjy
            have Hbb := Lib.hid hbb
            clear hn2 hhp hjy hbb
            gi_wp2
            refine ⟨Hhp.out, ?_⟩
            have ho3 : Only (· = L) Wy (Wy.putObj L (.loop (RL .busy none))) := Only.putObj (A := (· = L)) Wy (b := L) rfl _
            have hl3 : (Wy.putObj L (.loop (RL .busy none))).heap[L]? = some (.loop (RL .busy none)) := World.putObj_heap_same (by omega)
            have hs3 : (Wy.putObj L (.loop (RL .busy none))).heap.size = Wy.heap.size := World.putObj_size
            generalize Wy.putObj L (.loop (RL .busy none)) = W3 at *
            have hj3 := hC.jS _ _ _ _ Hjy.out (ho3.mono (fun k _ e e2 => hl2 (e ▸ e2)))
            have hb3 := ho3.blk Hbb.out (Ne.symm hne)
            have c3 := hb3.cells.c1
            have hF3 : ∀ k, F k → ¬ C3 k ∧ k < W3.heap.size := fun k hk => ⟨fun e => (hF2 k hk).1 ((hiff k).2 (.inl e)), by rw [hs3]; exact (hF2 k hk).2⟩
            have hn3 := Nd.on (w' := W3) (fun k hk => ho3.block k (hF2 k hk).2 (fun e => (hF2 k hk).1 ((hiff k).2 (.inr (.inl e))))) (fun _ h => h) _ Hn2.out
            obtain ⟨yf, yt, ya, yb, hy, hR⟩ := hC.yl (m2 - 1) C3 d2 rest2 W3 k2 v2 lt2 rt2 _ he2 hj3 hn3 hF3 (fun z hz => (ho3.block z (hF2 z hz).2 (fun e => (hF2 z hz).1 ((hiff z).2 (.inr (.inl e))))).trans (hw2 z hz))
            have Hl3 := Lib.hid hl3
            have Hb3 := Lib.hid hb3
            have Ho3 := Lib.hid ho3
            have Hs3 := Lib.hid hs3
            clear hl3 hb3 ho3 hj3 hn3 hF3 hs3
            gi_wp2_with fail
            refine ⟨fun h => by simp [Fence.wide] at h, ?_⟩
            refine RoundIn.mono (show RoundIn (Fence.wide.inRound L) (m2 - 1) Try.prog l yf yt ya yb W3 _ from hR) ?_
            rintro e W4 ⟨C4, ho4, hup4, ⟨rfl, hj4⟩ | ⟨rfl, hz4⟩⟩
            · have hs3 := Hs3.out
              have hl4 := (ho4.block L (by omega) hl2).trans Hl3.out
              have hb4 := ho4.blk Hb3.out hbx2
              have hs4 := ho4.size
              have hnl : ¬ C4 L := fun e => (hup4.2 L e).elim hl2 (fun h => by omega)
              have hnb4 : ¬ C4 W.heap.size := fun e => (hup4.2 _ e).elim hbx2 (fun h => by have := Hb3.out.lt; omega)
              have hO : Only (· = L) W4 (W4.putObj L (.loop (RL .ready none))) := Only.putObj (A := (· = L)) _ (b := L) rfl _
              have hl5 : (W4.putObj L (.loop (RL .ready none))).heap[L]? = some (.loop (RL .ready none)) := World.putObj_heap_same (by omega)
              have hs5 : (W4.putObj L (.loop (RL .ready none))).heap.size = W4.heap.size := World.putObj_size
              have hJZ5 := hC.jS _ _ _ _ hj4 (hO.mono (fun k _ e e2 => hnl (e ▸ e2)))
              have hb5 := hO.blk hb4 (Ne.symm hne)
              have hO2 : Only C2 Wy (W4.putObj L (.loop (RL .ready none))) := ((Ho3.out.mono (A' := C2) (fun k _ e => (hiff k).2 (.inr (.inl e)))).trans (ho4.mono (A' := C2) (fun k _ e => (hiff k).2 (.inl e)))).trans (hO.mono (A' := C2) (fun k _ e => (hiff k).2 (.inr (.inl e))))
              have hUp2 : Up C2 (fun k => C4 k ∨ k = L ∨ k = W.heap.size) Wy.heap.size := ⟨fun k e => ((hiff k).1 e).imp (hup4.1 k) id, fun k e => by
                rcases e with e | e | e
                · rcases hup4.2 k e with e | e
                  · exact .inl ((hiff k).2 (.inl e))
                  · exact .inr (by omega)
                · exact .inl ((hiff k).2 (.inr (.inl e)))
                · exact .inl ((hiff k).2 (.inr (.inr e)))⟩
              have hfinal : Told (InJ J l L W.heap.size (.loop (RL .ready none))) (InZ Z l L W.heap.size (.loop (RL .done (some .ret)))) C2 d2 (k2, v2) Wy (.returned (.bool true)) (W4.putObj L (.loop (RL .ready none))) :=
                ⟨fun k => C4 k ∨ k = L ∨ k = W.heap.size, hO2, hUp2, .inl ⟨rfl, C4, fun _ => Iff.rfl, hJZ5, hnl, hnb4, hne, by omega, hl5, hb5⟩⟩
              have Hfin := Lib.hid hfinal
              have Hl4 := Lib.hid hl4
              clear hs3 hb4 hs4 hO hl5 hs5 hJZ5 hb5 hO2 hUp2 hfinal hl4 hj4 ho4 hup4 hnl hnb4
              gi_wp2_with fail
              exact roundPost_normalR HRL.out Hl4.out Hfin.out
            · have hs3 := Hs3.out
              have hl4 := (ho4.block L (by omega) hl2).trans Hl3.out
              have hb4 := ho4.blk Hb3.out hbx2
              have hs4 := ho4.size
              have hnl : ¬ C4 L := fun e => (hup4.2 L e).elim hl2 (fun h => by omega)
              have hnb4 : ¬ C4 W.heap.size := fun e => (hup4.2 _ e).elim hbx2 (fun h => by have := Hb3.out.lt; omega)
              have hO : Only (· = L) W4 (W4.putObj L (.loop (RL .done (some .ret)))) := Only.putObj (A := (· = L)) _ (b := L) rfl _
              have hl5 : (W4.putObj L (.loop (RL .done (some .ret)))).heap[L]? = some (.loop (RL .done (some .ret))) := World.putObj_heap_same (by omega)
              have hs5 : (W4.putObj L (.loop (RL .done (some .ret)))).heap.size = W4.heap.size := World.putObj_size
              have hJZ5 := hC.zS _ _ _ hz4 (hO.mono (fun k _ e e2 => hnl (e ▸ e2)))
              have hb5 := hO.blk hb4 (Ne.symm hne)
              have hO2 : Only C2 Wy (W4.putObj L (.loop (RL .done (some .ret)))) := ((Ho3.out.mono (A' := C2) (fun k _ e => (hiff k).2 (.inr (.inl e)))).trans (ho4.mono (A' := C2) (fun k _ e => (hiff k).2 (.inl e)))).trans (hO.mono (A' := C2) (fun k _ e => (hiff k).2 (.inr (.inl e))))
              have hUp2 : Up C2 (fun k => C4 k ∨ k = L ∨ k = W.heap.size) Wy.heap.size := ⟨fun k e => ((hiff k).1 e).imp (hup4.1 k) id, fun k e => by
                rcases e with e | e | e
                · rcases hup4.2 k e with e | e
                  · exact .inl ((hiff k).2 (.inl e))
                  · exact .inr (by omega)
                · exact .inl ((hiff k).2 (.inr (.inl e)))
                · exact .inl ((hiff k).2 (.inr (.inr e)))⟩
              have hfinal : Told (InJ J l L W.heap.size (.loop (RL .ready none))) (InZ Z l L W.heap.size (.loop (RL .done (some .ret)))) C2 d2 (k2, v2) Wy (.returned (.bool false)) (W4.putObj L (.loop (RL .done (some .ret)))) :=
                ⟨fun k => C4 k ∨ k = L ∨ k = W.heap.size, hO2, hUp2, .inr ⟨rfl, C4, fun _ => Iff.rfl, hJZ5, hnl, hnb4, hne, by omega, hl5, hb5⟩⟩
              have Hfin := Lib.hid hfinal
              have Hl4 := Lib.hid hl4
              clear hs3 hb4 hs4 hO hl5 hs5 hJZ5 hb5 hO2 hUp2 hfinal hl4 hz4 ho4 hup4 hnl hnb4
              gi_wp2_with fail
              exact roundPost_retR HRL.out Hl4.out Hfin.out
          case hend =>
            rintro e W6 ⟨⟨v6, rfl⟩, C6, ho6, hup6, hx6⟩
            have hDn : ¬ (C We.heap.size ∨ We.heap.size = L ∨ We.heap.size = W.heap.size) := by
              rintro (e | e | e)
              · have := hCs5 _ e; omega
              · omega
              · omega
            have hD6 : W6.heap[We.heap.size]? = some (.deferred (some [])) := (ho6.block We.heap.size (by omega) hDn).trans hlD
            
            rcases hx6 with ⟨C7, hiff, hj6, hl6, hbx6, hne, hlt6, hhp, hbb⟩ | ⟨C7, hiff, hz6, hl6, hbx6, hne, hlt6, hhp, hbb⟩
            · refine ⟨⟨v6, rfl⟩, .ready, none, by simp, hhp, ?_⟩
              have hO6 : Only C W1 W6 := ⟨ho6.os.trans hO5.os, ho6.tape.trans hO5.tape, ho6.output.trans hO5.output, Nat.le_trans hO5.size ho6.size, fun z hz hn => by
                by_cases ez : z = W.heap.size
                · rw [ez]; exact hbb.trans hbx.symm
                · refine (ho6.block z (by omega) ?_).trans (hO5.block z hz hn)
                  rintro (e | e | e)
                  · exact (hup1.2 _ e).elim hn (fun h => by omega)
                  · omega
                  · exact ez e⟩
              have hU6 : Up C C7 W1.heap.size := ⟨fun z hz => by
                have h1 := hup6.1 z (.inl (hup1.1 z hz))
                have h2 := hCb z hz
                rcases (hiff z).1 h1 with e | e | e
                · exact e
                · omega
                · omega, fun z hz => by
                rcases hup6.2 z ((hiff z).2 (.inl hz)) with e | e
                · rcases e with e | e | e
                  · exact hup1.2 z e
                  · exact .inr (by omega)
                  · exact absurd (e ▸ hz) hbx6
                · exact .inr (by omega)⟩
              have hO7 : Only (· = L) W6 (W6.putObj L (.loop (RL .exhausted none))) := Only.putObj (A := (· = L)) _ (b := L) rfl _
              have hs7 : (W6.putObj L (.loop (RL .exhausted none))).heap.size = W6.heap.size := World.putObj_size
              have hj7 := hC.jS _ _ _ _ hj6 (hO7.mono (fun z _ e e2 => hl6 (e ▸ e2)))
              have hD7 : (W6.putObj L (.loop (RL .exhausted none))).heap[We.heap.size]? = some (.deferred (some [])) := (hO7.block _ (by omega) (by omega)).trans hD6
              have hO17 : Only C W1 (W6.putObj L (.loop (RL .exhausted none))) := ⟨hO7.os.trans hO6.os, hO7.tape.trans hO6.tape, hO7.output.trans hO6.output, Nat.le_trans hO6.size hO7.size, fun z hz hn => (hO7.block z (by omega) (by omega)).trans (hO6.block z hz hn)⟩
              have hDltp : We.heap.size < (W6.putObj L (.loop (RL .exhausted none))).heap.size := by omega
              have hDCp : ¬ C7 We.heap.size := fun e => (hup6.2 _ ((hiff _).2 (.inl e))).elim hDn (fun h => by omega)
              have hDbxp : We.heap.size ≠ W.heap.size := by omega
              have hDgp : W1.heap.size ≤ We.heap.size := by omega
              
              generalize W6.putObj L (.loop (RL .exhausted none)) = W7 at *
              obtain ⟨Dp, eDp⟩ : ∃ Dp, Dp = We.heap.size := ⟨_, rfl⟩
              rw [← eDp] at hD7 hDltp hDCp hDbxp hDgp  ⊢
              have HJ7 := Lib.hid hj7
              have HO7 := Lib.hid hO17
              have HU7 := Lib.hid hU6
              have HDp := Lib.hid hD7
              
              have Hs1 := Lib.hid hs1
              clear hs7 hO7 hU6 hO6 hD6 hD7 hO17 hj7 eDp hhp hbb hlt6 hj6 hiff hup6 ho6 hDn hjw hk5 hF5 hLC hbC hlL hlD hs5 hse hB5 hBe hqb hkbk hBc5 hO5 hj5 hup1 hCs5 hs1
              show Exit.inBlock 0 _ Exit.normal _ W7
              have hk7 := hK W7 HO7.out
              have cb7 := hk7.2.2.1.cells.c1
              have cn7 := hk7.1
              have hF7 : ∀ z, F z → ¬ C7 z ∧ z < W7.heap.size := fun z hz => ⟨fun e => (HU7.out.2 z e).elim (hF1 z hz).1 (fun h => by have := (hF1 z hz).2; omega), Nat.lt_of_lt_of_le (hF1 z hz).2 HO7.out.size⟩
              obtain ⟨yf, yt, ya, yb, hy, hR⟩ := hC.yl 0 C7 (d ++ lt.from key) (rt.from key ++ rest) W7 k v lt rt _ (by rw [ht, T.from, ← Hcm.out, if_neg (Int.not_lt.2 hge)]; simp) HJ7.out hk7.2.2.2.2.2.1 hF7 (fun z hz => (HO7.out.block z (hF1 z hz).2 (hF1 z hz).1).trans (H0.out z hz))
              clear hk7
              rename_i aK
              refine aK _ _ ?_
              refine (wpIn_wide (n := 1)).1 ?_
              dsimp only
              gi_wp2_with fail
              refine RoundIn.mono hR ?_
              rintro e W8 ⟨C8, ho8, hup8, ⟨rfl, hj8⟩ | ⟨rfl, hz8⟩⟩
              · have hO8 : Only C W1 W8 := ⟨ho8.os.trans HO7.out.os, ho8.tape.trans HO7.out.tape, ho8.output.trans HO7.out.output, Nat.le_trans HO7.out.size ho8.size, fun z hz hn => (ho8.block z (Nat.lt_of_lt_of_le hz HO7.out.size) (fun e => (HU7.out.2 z e).elim hn (fun h => by omega))).trans (HO7.out.block z hz hn)⟩
                have hU8 : Up C C8 W1.heap.size := HU7.out.trans hup8 HO7.out.size
                have hD8 := (ho8.block Dp hDltp hDCp).trans HDp.out
                have hDlt8 : Dp < W8.heap.size := Nat.lt_of_lt_of_le hDltp ho8.size
                have hDC8 : ¬ C8 Dp := fun e => (hup8.2 _ e).elim hDCp (fun h => by omega)
                have HD8 := Lib.hid hD8
                have HO8 := Lib.hid hO8
                have HUp := Lib.hid hU8
                have Hj := Lib.hid hj8
                have hs1 := Hs1.out
                clear hD8 hO8 hU8 hj8 ho8 hup8 hR HO7 HU7 HJ7 HDp hDCp hDltp hF7 cb7 cn7 hy Hs1
                have Hs1 := Lib.hid hs1
                clear hs1
                gi_wp2_with fail
                go_wp2_with fail
                generalize W8 = Wc at *
                have hO1d := HO8.out
                have hs1 := Hs1.out
                clear HO8 Hs1
                have HO1 := Lib.hid hO1d
                clear hO1d
                refine wp_calm ?_
                refine wp_region_held_drew (S := fun w' => Only C W1 w') (by kernel_rfl) (HO1.out.trans (Only.drew Wc)) (fun hHeld => ?_)
                refine wpAnyH_take (i := 0) (v := .pointer (some ⟨b, 0, none⟩)) rfl (by kernel_rfl) (by kernel_rfl) (by kernel_rfl) (fun _ _ _ h => h) (Or.inl ⟨by rfl, ?_⟩) hHeld ?_
                · intro w' hSw; have kx := (hK w' hSw).1; go_simp
                try simp only [Act.put, List.getElem_toArray, List.getElem_cons_succ, List.getElem_cons_zero, List.setIfInBounds_toArray, List.set_cons_zero, List.set_cons_succ]
                refine wpAnyH_take (i := 1) (v := .pointer (some ⟨b, 0, none⟩)) rfl (by kernel_rfl) (by kernel_rfl) (by kernel_rfl) (fun _ _ _ h => h) (Or.inl ⟨by rfl, ?_⟩) hHeld ?_
                · intro w' hSw; go_simp
                try simp only [Act.put, List.getElem_toArray, List.getElem_cons_succ, List.getElem_cons_zero, List.setIfInBounds_toArray, List.set_cons_zero, List.set_cons_succ]
                refine wpAnyH_take (i := 2) (v := .pointer (some ⟨b, 3, none⟩)) rfl (by kernel_rfl) (by kernel_rfl) (by kernel_rfl) (fun _ _ _ h => h) (Or.inl ⟨by rfl, ?_⟩) hHeld ?_
                · intro w' hSw; go_simp
                try simp only [Act.put, List.getElem_toArray, List.getElem_cons_succ, List.getElem_cons_zero, List.setIfInBounds_toArray, List.set_cons_zero, List.set_cons_succ]
                refine wpAnyH_take (i := 3) (v := .pointer qr) rfl (by kernel_rfl) (by kernel_rfl) (by kernel_rfl) (fun _ _ _ h => h) (Or.inl ⟨by rfl, ?_⟩) hHeld ?_
                · intro w' hSw; have kx := (hK w' hSw).2.2.2.2.1; go_simp
                try simp only [Act.put, List.getElem_toArray, List.getElem_cons_succ, List.getElem_cons_zero, List.setIfInBounds_toArray, List.set_cons_zero, List.set_cons_succ]
                refine wpAnyH_take (i := 4) (v := .slice ak key.length ck) rfl (by kernel_rfl) (by kernel_rfl) (by kernel_rfl) (fun _ _ _ h => h) (Or.inl ⟨by rfl, ?_⟩) hHeld ?_
                · intro w' hSw; have kx := (hK w' hSw).2.1; go_simp
                try simp only [Act.put, List.getElem_toArray, List.getElem_cons_succ, List.getElem_cons_zero, List.setIfInBounds_toArray, List.set_cons_zero, List.set_cons_succ]
                refine wpAnyH_ready (rs := [5]) (by kernel_rfl) (by simp) ?_
                refine allCall (f := 35) (args := #[.pointer qr, .slice ak key.length ck]) rfl (by kernel_rfl) ?_ ?_ AllReadyH.nil
                · kernel_rfl
                · refine from_any qr ak key.length ck Wc.drew _ ?_
                  refine ⟨_, rfl, (HO1.out.trans (Only.drew Wc)).trans ((Only.alloc Wc.drew _).trans (Only.alloc _ _)), ?_⟩
                  try simp only [Act.put, List.getElem_toArray, List.getElem_cons_succ, List.getElem_cons_zero, List.setIfInBounds_toArray, List.set_cons_zero, List.set_cons_succ]
                  refine wpAnyH_done (by kernel_rfl) (calm_normal ?_) _
                  go_wp2_with fail
                  have hqb : Blk ((Wc.drew.alloc (.cells #[.pointer qr] 50)).alloc (.cells #[.slice ak key.length ck] 30)) Wc.heap.size [.pointer qr] 50 := (Blk.new Wc.drew [.pointer qr] 50 rfl).alloc _
                  have hkbk : Blk ((Wc.drew.alloc (.cells #[.pointer qr] 50)).alloc (.cells #[.slice ak key.length ck] 30)) (Wc.heap.size + 1) [.slice ak key.length ck] 30 := Blk.new (Wc.drew.alloc (.cells #[.pointer qr] 50)) [.slice ak key.length ck] 30 (by simp)
                  have hse : ((Wc.drew.alloc (.cells #[.pointer qr] 50)).alloc (.cells #[.slice ak key.length ck] 30)).heap.size = Wc.heap.size + 2 := by simp
                  have hBe : Below Wc.heap.size Wc ((Wc.drew.alloc (.cells #[.pointer qr] 50)).alloc (.cells #[.slice ak key.length ck] 30)) := ((Below.drew (Below.refl _ _)).alloc (Nat.le_refl _) _).alloc (by simp) _
                  generalize (Wc.drew.alloc (.cells #[.pointer qr] 50)).alloc (.cells #[.slice ak key.length ck] 30) = We at *
                  refine wp_rangeFuncR 1 (gf := 46) rfl (enters_of Try.func46 (by kernel_rfl) rfl) (fun fn RL hRL => ?_)
                  have HRL := Lib.hid hRL
                  clear hRL
                  have hB5 : Below We.heap.size We ((We.alloc (.deferred (some []))).alloc (.loop (RL .ready none))) := ((Below.refl _ _).alloc (Nat.le_refl _) _).alloc (by simp) _
                  have hlD : ((We.alloc (.deferred (some []))).alloc (.loop (RL .ready none))).heap[We.heap.size]? = some (.deferred (some [])) := (Below.heap_alloc _ _ _ (by simp)).trans (World.alloc_heap_new We _)
                  have hlL : ((We.alloc (.deferred (some []))).alloc (.loop (RL .ready none))).heap[We.heap.size + 1]? = some (.loop (RL .ready none)) := by
                    have := World.alloc_heap_new (We.alloc (.deferred (some []))) (.loop (RL .ready none))
                    rwa [World.size_alloc] at this
                  have hs5 : ((We.alloc (.deferred (some []))).alloc (.loop (RL .ready none))).heap.size = We.heap.size + 2 := by simp
                  generalize (We.alloc (.deferred (some []))).alloc (.loop (RL .ready none)) = W5 at *
                  have hBc5 : Below Wc.heap.size Wc W5 := hBe.trans (hB5.mono (by omega))
                  have hO5 : Only C W1 W5 := HO1.out.trans (Below.only hBc5)
                  have hs1c := HO1.out.size
                  have hj5 := hC.jS _ _ _ _ Hj.out (Below.only hBc5)
                  have hCs5 := hC.jC _ _ _ Hj.out
                  have hup1 := HUp.out
                  obtain ⟨L, eL⟩ : ∃ L, L = We.heap.size + 1 := ⟨_, rfl⟩
                  have hLC : ¬ C8 L := fun e => by have := hCs5 _ e; omega
                  have hbC : ¬ C8 W.heap.size := fun e => by
                    rcases hup1.2 _ e with e | e
                    · exact hbxC e
                    · omega
                  rw [← eL] at hlL ⊢
                  have hF5 : ∀ k, F k → ¬ (C8 k ∨ k = L ∨ k = W.heap.size) ∧ k < W5.heap.size := fun k hk => by
                    have h1 := hF1 k hk
                    have h2 := hFW k hk
                    refine ⟨fun e => ?_, by omega⟩
                    rcases e with e | e | e
                    · rcases hup1.2 _ e with e | e
                      · exact h1.1 e
                      · omega
                    · omega
                    · omega
                  have hk5 := hK W5 hO5
                  have hjw : InJ J l L W.heap.size (.loop (RL .ready none)) (fun k => C8 k ∨ k = L ∨ k = W.heap.size) ((d ++ lt.from key) ++ [(k, v)]) W5 := ⟨C8, fun _ => Iff.rfl, hj5, hLC, hbC, by omega, by omega, hlL, hk5.2.2.1⟩
                  refine (ihr L (InJ J l L W.heap.size (.loop (RL .ready none))) (InZ Z l L W.heap.size (.loop (RL .done (some .ret)))) (hC.inner L W.heap.size _ _ ?hy) Wc.heap.size (Wc.heap.size + 1) qr ak ck (fun k => C8 k ∨ k = L ∨ k = W.heap.size) ((d ++ lt.from key) ++ [(k, v)]) (rest) W5 1 hk5.2.2.2.2.2.2.2.1 hk5.2.2.2.2.2.2.2.2 hF5 ((hqb.below hB5 (by omega)).cells.c1) ((hkbk.below hB5 (by omega)).cells.c1) ⟨?hnb, by omega⟩ ⟨?hkb, by omega⟩ hjw ?ht ?h0).mono ?hend
                  case hnb => rintro (e | e | e)
                              · have := hCs5 _ e; omega
                              · omega
                              · omega
                  case hkb => rintro (e | e | e)
                              · have := hCs5 _ e; omega
                              · omega
                              · omega
                  case ht => rw [ht, T.from, ← Hcm.out, if_neg (Int.not_lt.2 hge)]; simp
                  case h0 => exact fun z hz => (hO5.block z (hF1 z hz).2 (hF1 z hz).1).trans (H0.out z hz)
                  case hy =>
                    intro m2 C2 d2 rest2 Wy k2 v2 lt2 rt2 p2 he2 hj2 hn2 hF2 hw2
                    have HeL := Lib.hid eL
                    have Hse := Lib.hid hse
                    have Hs5 := Lib.hid hs5
                    have Hs1 := Lib.hid hs1
                    clear eL hse hs5 hs1
                    obtain ⟨C3, hiff, hjy, hl2, hbx2, hne, hlt2, hhp, hbb⟩ := hj2
                    obtain ⟨b2, -, -, -, -, rfl, -⟩ := id hn2
                    refine yieldAt_recR HRL.out hhp rfl ?_
                    have Hhp := Lib.hid hhp
                    have Hn2 := Lib.hid hn2
                    have Hjy := Lib.hid hjy
                    have Hbb := Lib.hid hbb
                    clear hn2 hhp hjy hbb
                    gi_wp2
                    refine ⟨Hhp.out, ?_⟩
                    have ho3 : Only (· = L) Wy (Wy.putObj L (.loop (RL .busy none))) := Only.putObj (A := (· = L)) Wy (b := L) rfl _
                    have hl3 : (Wy.putObj L (.loop (RL .busy none))).heap[L]? = some (.loop (RL .busy none)) := World.putObj_heap_same (by omega)
                    have hs3 : (Wy.putObj L (.loop (RL .busy none))).heap.size = Wy.heap.size := World.putObj_size
                    generalize Wy.putObj L (.loop (RL .busy none)) = W3 at *
                    have hj3 := hC.jS _ _ _ _ Hjy.out (ho3.mono (fun k _ e e2 => hl2 (e ▸ e2)))
                    have hb3 := ho3.blk Hbb.out (Ne.symm hne)
                    have c3 := hb3.cells.c1
                    have hF3 : ∀ k, F k → ¬ C3 k ∧ k < W3.heap.size := fun k hk => ⟨fun e => (hF2 k hk).1 ((hiff k).2 (.inl e)), by rw [hs3]; exact (hF2 k hk).2⟩
                    have hn3 := Nd.on (w' := W3) (fun k hk => ho3.block k (hF2 k hk).2 (fun e => (hF2 k hk).1 ((hiff k).2 (.inr (.inl e))))) (fun _ h => h) _ Hn2.out
                    obtain ⟨yf, yt, ya, yb, hy, hR⟩ := hC.yl (m2 - 1) C3 d2 rest2 W3 k2 v2 lt2 rt2 _ he2 hj3 hn3 hF3 (fun z hz => (ho3.block z (hF2 z hz).2 (fun e => (hF2 z hz).1 ((hiff z).2 (.inr (.inl e))))).trans (hw2 z hz))
                    have Hl3 := Lib.hid hl3
                    have Hb3 := Lib.hid hb3
                    have Ho3 := Lib.hid ho3
                    have Hs3 := Lib.hid hs3
                    clear hl3 hb3 ho3 hj3 hn3 hF3 hs3
                    gi_wp2_with fail
                    refine ⟨fun h => by simp [Fence.wide] at h, ?_⟩
                    refine RoundIn.mono (show RoundIn (Fence.wide.inRound L) (m2 - 1) Try.prog l yf yt ya yb W3 _ from hR) ?_
                    rintro e W4 ⟨C4, ho4, hup4, ⟨rfl, hj4⟩ | ⟨rfl, hz4⟩⟩
                    · have hs3 := Hs3.out
                      have hl4 := (ho4.block L (by omega) hl2).trans Hl3.out
                      have hb4 := ho4.blk Hb3.out hbx2
                      have hs4 := ho4.size
                      have hnl : ¬ C4 L := fun e => (hup4.2 L e).elim hl2 (fun h => by omega)
                      have hnb4 : ¬ C4 W.heap.size := fun e => (hup4.2 _ e).elim hbx2 (fun h => by have := Hb3.out.lt; omega)
                      have hO : Only (· = L) W4 (W4.putObj L (.loop (RL .ready none))) := Only.putObj (A := (· = L)) _ (b := L) rfl _
                      have hl5 : (W4.putObj L (.loop (RL .ready none))).heap[L]? = some (.loop (RL .ready none)) := World.putObj_heap_same (by omega)
                      have hs5 : (W4.putObj L (.loop (RL .ready none))).heap.size = W4.heap.size := World.putObj_size
                      have hJZ5 := hC.jS _ _ _ _ hj4 (hO.mono (fun k _ e e2 => hnl (e ▸ e2)))
                      have hb5 := hO.blk hb4 (Ne.symm hne)
                      have hO2 : Only C2 Wy (W4.putObj L (.loop (RL .ready none))) := ((Ho3.out.mono (A' := C2) (fun k _ e => (hiff k).2 (.inr (.inl e)))).trans (ho4.mono (A' := C2) (fun k _ e => (hiff k).2 (.inl e)))).trans (hO.mono (A' := C2) (fun k _ e => (hiff k).2 (.inr (.inl e))))
                      have hUp2 : Up C2 (fun k => C4 k ∨ k = L ∨ k = W.heap.size) Wy.heap.size := ⟨fun k e => ((hiff k).1 e).imp (hup4.1 k) id, fun k e => by
                        rcases e with e | e | e
                        · rcases hup4.2 k e with e | e
                          · exact .inl ((hiff k).2 (.inl e))
                          · exact .inr (by omega)
                        · exact .inl ((hiff k).2 (.inr (.inl e)))
                        · exact .inl ((hiff k).2 (.inr (.inr e)))⟩
                      have hfinal : Told (InJ J l L W.heap.size (.loop (RL .ready none))) (InZ Z l L W.heap.size (.loop (RL .done (some .ret)))) C2 d2 (k2, v2) Wy (.returned (.bool true)) (W4.putObj L (.loop (RL .ready none))) :=
                        ⟨fun k => C4 k ∨ k = L ∨ k = W.heap.size, hO2, hUp2, .inl ⟨rfl, C4, fun _ => Iff.rfl, hJZ5, hnl, hnb4, hne, by omega, hl5, hb5⟩⟩
                      have Hfin := Lib.hid hfinal
                      have Hl4 := Lib.hid hl4
                      clear hs3 hb4 hs4 hO hl5 hs5 hJZ5 hb5 hO2 hUp2 hfinal hl4 hj4 ho4 hup4 hnl hnb4
                      gi_wp2_with fail
                      exact roundPost_normalR HRL.out Hl4.out Hfin.out
                    · have hs3 := Hs3.out
                      have hl4 := (ho4.block L (by omega) hl2).trans Hl3.out
                      have hb4 := ho4.blk Hb3.out hbx2
                      have hs4 := ho4.size
                      have hnl : ¬ C4 L := fun e => (hup4.2 L e).elim hl2 (fun h => by omega)
                      have hnb4 : ¬ C4 W.heap.size := fun e => (hup4.2 _ e).elim hbx2 (fun h => by have := Hb3.out.lt; omega)
                      have hO : Only (· = L) W4 (W4.putObj L (.loop (RL .done (some .ret)))) := Only.putObj (A := (· = L)) _ (b := L) rfl _
                      have hl5 : (W4.putObj L (.loop (RL .done (some .ret)))).heap[L]? = some (.loop (RL .done (some .ret))) := World.putObj_heap_same (by omega)
                      have hs5 : (W4.putObj L (.loop (RL .done (some .ret)))).heap.size = W4.heap.size := World.putObj_size
                      have hJZ5 := hC.zS _ _ _ hz4 (hO.mono (fun k _ e e2 => hnl (e ▸ e2)))
                      have hb5 := hO.blk hb4 (Ne.symm hne)
                      have hO2 : Only C2 Wy (W4.putObj L (.loop (RL .done (some .ret)))) := ((Ho3.out.mono (A' := C2) (fun k _ e => (hiff k).2 (.inr (.inl e)))).trans (ho4.mono (A' := C2) (fun k _ e => (hiff k).2 (.inl e)))).trans (hO.mono (A' := C2) (fun k _ e => (hiff k).2 (.inr (.inl e))))
                      have hUp2 : Up C2 (fun k => C4 k ∨ k = L ∨ k = W.heap.size) Wy.heap.size := ⟨fun k e => ((hiff k).1 e).imp (hup4.1 k) id, fun k e => by
                        rcases e with e | e | e
                        · rcases hup4.2 k e with e | e
                          · exact .inl ((hiff k).2 (.inl e))
                          · exact .inr (by omega)
                        · exact .inl ((hiff k).2 (.inr (.inl e)))
                        · exact .inl ((hiff k).2 (.inr (.inr e)))⟩
                      have hfinal : Told (InJ J l L W.heap.size (.loop (RL .ready none))) (InZ Z l L W.heap.size (.loop (RL .done (some .ret)))) C2 d2 (k2, v2) Wy (.returned (.bool false)) (W4.putObj L (.loop (RL .done (some .ret)))) :=
                        ⟨fun k => C4 k ∨ k = L ∨ k = W.heap.size, hO2, hUp2, .inr ⟨rfl, C4, fun _ => Iff.rfl, hJZ5, hnl, hnb4, hne, by omega, hl5, hb5⟩⟩
                      have Hfin := Lib.hid hfinal
                      have Hl4 := Lib.hid hl4
                      clear hs3 hb4 hs4 hO hl5 hs5 hJZ5 hb5 hO2 hUp2 hfinal hl4 hz4 ho4 hup4 hnl hnb4
                      gi_wp2_with fail
                      exact roundPost_retR HRL.out Hl4.out Hfin.out
                  case hend =>
                    rintro e W6 ⟨⟨v6, rfl⟩, C6, ho6, hup6, hx6⟩
                    have hDn : ¬ (C8 We.heap.size ∨ We.heap.size = L ∨ We.heap.size = W.heap.size) := by
                      rintro (e | e | e)
                      · have := hCs5 _ e; omega
                      · omega
                      · omega
                    have hD6 : W6.heap[We.heap.size]? = some (.deferred (some [])) := (ho6.block We.heap.size (by omega) hDn).trans hlD
                    have hDp6 : W6.heap[Dp]? = some (.deferred (some [])) := (ho6.block Dp (by omega) (by
                      rintro (e | e | e)
                      · exact hDC8 e
                      · omega
                      · exact hDbxp e)).trans ((hBc5.block Dp hDlt8).trans HD8.out)
                    rcases hx6 with ⟨C7, hiff, hj6, hl6, hbx6, hne, hlt6, hhp, hbb⟩ | ⟨C7, hiff, hz6, hl6, hbx6, hne, hlt6, hhp, hbb⟩
                    · refine ⟨⟨v6, rfl⟩, .ready, none, by simp, hhp, ?_⟩
                      have hO6 : Only C W1 W6 := ⟨ho6.os.trans hO5.os, ho6.tape.trans hO5.tape, ho6.output.trans hO5.output, Nat.le_trans hO5.size ho6.size, fun z hz hn => by
                        by_cases ez : z = W.heap.size
                        · rw [ez]; exact hbb.trans hbx.symm
                        · refine (ho6.block z (by omega) ?_).trans (hO5.block z hz hn)
                          rintro (e | e | e)
                          · exact (hup1.2 _ e).elim hn (fun h => by omega)
                          · omega
                          · exact ez e⟩
                      have hU6 : Up C C7 W1.heap.size := ⟨fun z hz => by
                        have h1 := hup6.1 z (.inl (hup1.1 z hz))
                        have h2 := hCb z hz
                        rcases (hiff z).1 h1 with e | e | e
                        · exact e
                        · omega
                        · omega, fun z hz => by
                        rcases hup6.2 z ((hiff z).2 (.inl hz)) with e | e
                        · rcases e with e | e | e
                          · exact hup1.2 z e
                          · exact .inr (by omega)
                          · exact absurd (e ▸ hz) hbx6
                        · exact .inr (by omega)⟩
                      have hO7 : Only (· = L) W6 (W6.putObj L (.loop (RL .exhausted none))) := Only.putObj (A := (· = L)) _ (b := L) rfl _
                      have hs7 : (W6.putObj L (.loop (RL .exhausted none))).heap.size = W6.heap.size := World.putObj_size
                      have hj7 := hC.jS _ _ _ _ hj6 (hO7.mono (fun z _ e e2 => hl6 (e ▸ e2)))
                      have hD7 : (W6.putObj L (.loop (RL .exhausted none))).heap[We.heap.size]? = some (.deferred (some [])) := (hO7.block _ (by omega) (by omega)).trans hD6
                      have hO17 : Only C W1 (W6.putObj L (.loop (RL .exhausted none))) := ⟨hO7.os.trans hO6.os, hO7.tape.trans hO6.tape, hO7.output.trans hO6.output, Nat.le_trans hO6.size hO7.size, fun z hz hn => (hO7.block z (by omega) (by omega)).trans (hO6.block z hz hn)⟩
                      have hDlt : We.heap.size < (W6.putObj L (.loop (RL .exhausted none))).heap.size := by omega
                      have hDC : ¬ C7 We.heap.size := fun e => (hup6.2 _ ((hiff _).2 (.inl e))).elim hDn (fun h => by omega)
                      have hDbx : We.heap.size ≠ W.heap.size := by omega
                      have hDg : W1.heap.size ≤ We.heap.size := by omega
                      have hDp7 := (hO7.block Dp (by omega) (by omega)).trans hDp6
                      have hDpC7 : ¬ C7 Dp := fun e => (hup6.2 _ ((hiff _).2 (.inl e))).elim (fun h => by
                        rcases h with h | h | h
                        · exact hDC8 h
                        · omega
                        · exact hDbxp h) (fun h => by omega)
                      have hDDp : We.heap.size ≠ Dp := by omega
                      have hDltz : Dp < W6.heap.size := by omega
                      generalize W6.putObj L (.loop (RL .exhausted none)) = W7 at *
                      obtain ⟨D, eD⟩ : ∃ D, D = We.heap.size := ⟨_, rfl⟩
                      rw [← eD] at hD7 hDlt hDC hDbx hDg hDDp ⊢
                      have HJ7 := Lib.hid hj7
                      have HO7 := Lib.hid hO17
                      have HU7 := Lib.hid hU6
                      have HD7 := Lib.hid hD7
                      have HDp7 := Lib.hid hDp7
                      clear hDp7 hDp6 hDltz
                      have Hs1 := Lib.hid hs1
                      clear hs7 hO7 hU6 hO6 hD6 hD7 hO17 hj7 eD hhp hbb hlt6 hj6 hiff hup6 ho6 hDn hjw hk5 hF5 hLC hbC hlL hlD hs5 hse hB5 hBe hqb hkbk hBc5 hO5 hj5 hup1 hCs5 hs1
                      show Exit.inBlock 2 _ Exit.normal _ W7
                      have hUf : Up C C7 W.heap.size := ⟨HU7.out.1, fun z e => (HU7.out.2 z e).imp id (fun h => by have := Hs1.out; omega)⟩
                      have hfin : Only C W ((W7.putObj D (.deferred none)).putObj Dp (.deferred none)) ∧ ∃ C', Up C C' W.heap.size ∧ (J C' (d ++ T.from key (.node k v lt rt)) ((W7.putObj D (.deferred none)).putObj Dp (.deferred none)) ∨ Z C' ((W7.putObj D (.deferred none)).putObj Dp (.deferred none))) :=
                        ⟨hO2.trans ((HO7.out.putNew hDg _).putNew hDgp _), C7, hUf, .inl ((show (d ++ lt.from key) ++ [(k, v)] ++ rt.from key = d ++ T.from key (.node k v lt rt) by rw [T.from, ← Hcm.out, if_neg (Int.not_lt.2 hge)]; simp) ▸ hC.jPut (hC.jPut HJ7.out hDC _) hDpC7 _)⟩
                      have hDp9 : (W7.putObj D (.deferred none)).heap[Dp]? = some (.deferred (some [])) := (World.putObj_heap_other (fun e => hDDp (by omega))).trans HDp7.out
                      have HDp9 := Lib.hid hDp9
                      have Hfin := Lib.hid hfin
                      clear hfin hUf hDp9
                      go_wp2_with fail
                      refine ⟨by simp, .inl ⟨_, _, rfl, run_takeDeferred HD7.out, ?_⟩⟩
                      refine ⟨by simp, .inl ⟨_, _, rfl, run_takeDeferred HDp9.out, ?_⟩⟩
                      exact ⟨_, results_none rfl _ _ _, ⟨_, rfl⟩, Hfin.out⟩
                    · refine ⟨⟨v6, rfl⟩, .done, (some .ret), by simp, hhp, ?_⟩
                      have hO6 : Only C W1 W6 := ⟨ho6.os.trans hO5.os, ho6.tape.trans hO5.tape, ho6.output.trans hO5.output, Nat.le_trans hO5.size ho6.size, fun z hz hn => by
                        by_cases ez : z = W.heap.size
                        · rw [ez]; exact hbb.trans hbx.symm
                        · refine (ho6.block z (by omega) ?_).trans (hO5.block z hz hn)
                          rintro (e | e | e)
                          · exact (hup1.2 _ e).elim hn (fun h => by omega)
                          · omega
                          · exact ez e⟩
                      have hU6 : Up C C7 W1.heap.size := ⟨fun z hz => by
                        have h1 := hup6.1 z (.inl (hup1.1 z hz))
                        have h2 := hCb z hz
                        rcases (hiff z).1 h1 with e | e | e
                        · exact e
                        · omega
                        · omega, fun z hz => by
                        rcases hup6.2 z ((hiff z).2 (.inl hz)) with e | e
                        · rcases e with e | e | e
                          · exact hup1.2 z e
                          · exact .inr (by omega)
                          · exact absurd (e ▸ hz) hbx6
                        · exact .inr (by omega)⟩
                      have hO7 : Only (· = L) W6 (W6.putObj L (.loop (RL .exhausted (some .ret)))) := Only.putObj (A := (· = L)) _ (b := L) rfl _
                      have hs7 : (W6.putObj L (.loop (RL .exhausted (some .ret)))).heap.size = W6.heap.size := World.putObj_size
                      have hj7 := hC.zS _ _ _ hz6 (hO7.mono (fun z _ e e2 => hl6 (e ▸ e2)))
                      have hD7 : (W6.putObj L (.loop (RL .exhausted (some .ret)))).heap[We.heap.size]? = some (.deferred (some [])) := (hO7.block _ (by omega) (by omega)).trans hD6
                      have hO17 : Only C W1 (W6.putObj L (.loop (RL .exhausted (some .ret)))) := ⟨hO7.os.trans hO6.os, hO7.tape.trans hO6.tape, hO7.output.trans hO6.output, Nat.le_trans hO6.size hO7.size, fun z hz hn => (hO7.block z (by omega) (by omega)).trans (hO6.block z hz hn)⟩
                      have hDlt : We.heap.size < (W6.putObj L (.loop (RL .exhausted (some .ret)))).heap.size := by omega
                      have hDC : ¬ C7 We.heap.size := fun e => (hup6.2 _ ((hiff _).2 (.inl e))).elim hDn (fun h => by omega)
                      have hDbx : We.heap.size ≠ W.heap.size := by omega
                      have hDg : W1.heap.size ≤ We.heap.size := by omega
                      have hDp7 := (hO7.block Dp (by omega) (by omega)).trans hDp6
                      have hDpC7 : ¬ C7 Dp := fun e => (hup6.2 _ ((hiff _).2 (.inl e))).elim (fun h => by
                        rcases h with h | h | h
                        · exact hDC8 h
                        · omega
                        · exact hDbxp h) (fun h => by omega)
                      have hDDp : We.heap.size ≠ Dp := by omega
                      have hDltz : Dp < W6.heap.size := by omega
                      dsimp only
                      generalize W6.putObj L (.loop (RL .exhausted (some .ret))) = W7 at *
                      obtain ⟨D, eD⟩ : ∃ D, D = We.heap.size := ⟨_, rfl⟩
                      rw [← eD] at hD7 hDlt hDC hDbx hDg hDDp ⊢
                      have HJ7 := Lib.hid hj7
                      have HO7 := Lib.hid hO17
                      have HU7 := Lib.hid hU6
                      have HD7 := Lib.hid hD7
                      have HDp7 := Lib.hid hDp7
                      clear hDp7 hDp6 hDltz
                      have Hs1 := Lib.hid hs1
                      clear hs7 hO7 hU6 hO6 hD6 hD7 hO17 hj7 eD hhp hbb hlt6 hz6 hiff hup6 ho6 hDn hjw hk5 hF5 hLC hbC hlL hlD hs5 hse hB5 hBe hqb hkbk hBc5 hO5 hj5 hup1 hCs5 hs1
                      have hUf : Up C C7 W.heap.size := ⟨HU7.out.1, fun z e => (HU7.out.2 z e).imp id (fun h => by have := Hs1.out; omega)⟩
                      have hfin : Only C W ((W7.putObj D (.deferred none)).putObj Dp (.deferred none)) ∧ ∃ C', Up C C' W.heap.size ∧ (J C' (d ++ T.from key (.node k v lt rt)) ((W7.putObj D (.deferred none)).putObj Dp (.deferred none)) ∨ Z C' ((W7.putObj D (.deferred none)).putObj Dp (.deferred none))) :=
                        ⟨hO2.trans ((HO7.out.putNew hDg _).putNew hDgp _), C7, hUf, .inr (hC.zPut (hC.zPut HJ7.out hDC _) hDpC7 _)⟩
                      have hDp9 : (W7.putObj D (.deferred none)).heap[Dp]? = some (.deferred (some [])) := (World.putObj_heap_other (fun e => hDDp (by omega))).trans HDp7.out
                      have HDp9 := Lib.hid hDp9
                      have Hfin := Lib.hid hfin
                      clear hfin hUf hDp9
                      go_wp2_with fail
                      refine ⟨by simp, .inl ⟨_, _, rfl, run_takeDeferred HD7.out, ?_⟩⟩
                      refine ⟨by simp, .inl ⟨_, _, rfl, run_takeDeferred HDp9.out, ?_⟩⟩
                      exact ⟨_, results_none rfl _ _ _, ⟨_, rfl⟩, Hfin.out⟩

              · have hO8 : Only C W1 W8 := ⟨ho8.os.trans HO7.out.os, ho8.tape.trans HO7.out.tape, ho8.output.trans HO7.out.output, Nat.le_trans HO7.out.size ho8.size, fun z hz hn => (ho8.block z (Nat.lt_of_lt_of_le hz HO7.out.size) (fun e => (HU7.out.2 z e).elim hn (fun h => by omega))).trans (HO7.out.block z hz hn)⟩
                have hU8 : Up C C8 W1.heap.size := HU7.out.trans hup8 HO7.out.size
                have HD8 := Lib.hid ((ho8.block Dp hDltp hDCp).trans HDp.out)
                have hDC8 : ¬ C8 Dp := fun e => (hup8.2 _ e).elim hDCp (fun h => by omega)
                have hUf : Up C C8 W.heap.size := ⟨hU8.1, fun z e => (hU8.2 z e).imp id (fun h => by have := Hs1.out; omega)⟩
                have hfin : Only C W (W8.putObj Dp (.deferred none)) ∧ ∃ C', Up C C' W.heap.size ∧ (J C' (d ++ T.from key (.node k v lt rt)) (W8.putObj Dp (.deferred none)) ∨ Z C' (W8.putObj Dp (.deferred none))) :=
                  ⟨hO2.trans (hO8.putNew hDgp _), C8, hUf, .inr (hC.zPut hz8 hDC8 _)⟩
                have Hfin := Lib.hid hfin
                clear hfin hUf hU8 hO8 ho8 hup8 hz8 hR hy cb7 cn7 hF7
                gi_wp2_with fail
                refine ⟨by simp, .inl ⟨_, _, rfl, run_takeDeferred HD8.out, ?_⟩⟩
                exact ⟨_, results_none rfl _ _ _, ⟨_, rfl⟩, (let ⟨h1, C', h2⟩ := Hfin.out; ⟨C', h1, h2⟩)⟩
            · refine ⟨⟨v6, rfl⟩, .done, (some .ret), by simp, hhp, ?_⟩
              have hO6 : Only C W1 W6 := ⟨ho6.os.trans hO5.os, ho6.tape.trans hO5.tape, ho6.output.trans hO5.output, Nat.le_trans hO5.size ho6.size, fun z hz hn => by
                by_cases ez : z = W.heap.size
                · rw [ez]; exact hbb.trans hbx.symm
                · refine (ho6.block z (by omega) ?_).trans (hO5.block z hz hn)
                  rintro (e | e | e)
                  · exact (hup1.2 _ e).elim hn (fun h => by omega)
                  · omega
                  · exact ez e⟩
              have hU6 : Up C C7 W1.heap.size := ⟨fun z hz => by
                have h1 := hup6.1 z (.inl (hup1.1 z hz))
                have h2 := hCb z hz
                rcases (hiff z).1 h1 with e | e | e
                · exact e
                · omega
                · omega, fun z hz => by
                rcases hup6.2 z ((hiff z).2 (.inl hz)) with e | e
                · rcases e with e | e | e
                  · exact hup1.2 z e
                  · exact .inr (by omega)
                  · exact absurd (e ▸ hz) hbx6
                · exact .inr (by omega)⟩
              have hO7 : Only (· = L) W6 (W6.putObj L (.loop (RL .exhausted (some .ret)))) := Only.putObj (A := (· = L)) _ (b := L) rfl _
              have hs7 : (W6.putObj L (.loop (RL .exhausted (some .ret)))).heap.size = W6.heap.size := World.putObj_size
              have hj7 := hC.zS _ _ _ hz6 (hO7.mono (fun z _ e e2 => hl6 (e ▸ e2)))
              have hD7 : (W6.putObj L (.loop (RL .exhausted (some .ret)))).heap[We.heap.size]? = some (.deferred (some [])) := (hO7.block _ (by omega) (by omega)).trans hD6
              have hO17 : Only C W1 (W6.putObj L (.loop (RL .exhausted (some .ret)))) := ⟨hO7.os.trans hO6.os, hO7.tape.trans hO6.tape, hO7.output.trans hO6.output, Nat.le_trans hO6.size hO7.size, fun z hz hn => (hO7.block z (by omega) (by omega)).trans (hO6.block z hz hn)⟩
              have hDltp : We.heap.size < (W6.putObj L (.loop (RL .exhausted (some .ret)))).heap.size := by omega
              have hDCp : ¬ C7 We.heap.size := fun e => (hup6.2 _ ((hiff _).2 (.inl e))).elim hDn (fun h => by omega)
              have hDbxp : We.heap.size ≠ W.heap.size := by omega
              have hDgp : W1.heap.size ≤ We.heap.size := by omega
              
              dsimp only
              generalize W6.putObj L (.loop (RL .exhausted (some .ret))) = W7 at *
              obtain ⟨Dp, eDp⟩ : ∃ Dp, Dp = We.heap.size := ⟨_, rfl⟩
              rw [← eDp] at hD7 hDltp hDCp hDbxp hDgp  ⊢
              have HJ7 := Lib.hid hj7
              have HO7 := Lib.hid hO17
              have HU7 := Lib.hid hU6
              have HDp := Lib.hid hD7
              
              have Hs1 := Lib.hid hs1
              clear hs7 hO7 hU6 hO6 hD6 hD7 hO17 hj7 eDp hhp hbb hlt6 hz6 hiff hup6 ho6 hDn hjw hk5 hF5 hLC hbC hlL hlD hs5 hse hB5 hBe hqb hkbk hBc5 hO5 hj5 hup1 hCs5 hs1
              have hUf : Up C C7 W.heap.size := ⟨HU7.out.1, fun z e => (HU7.out.2 z e).imp id (fun h => by have := Hs1.out; omega)⟩
              have hfin : Only C W (W7.putObj Dp (.deferred none)) ∧ ∃ C', Up C C' W.heap.size ∧ (J C' (d ++ T.from key (.node k v lt rt)) (W7.putObj Dp (.deferred none)) ∨ Z C' (W7.putObj Dp (.deferred none))) :=
                ⟨hO2.trans (HO7.out.putNew hDgp _), C7, hUf, .inr (hC.zPut HJ7.out hDCp _)⟩
              have Hfin := Lib.hid hfin
              clear hfin hUf
              go_wp2_with fail
              refine ⟨by simp, .inl ⟨_, _, rfl, run_takeDeferred HDp.out, ?_⟩⟩
              exact ⟨_, results_none rfl _ _ _, ⟨_, rfl⟩, Hfin.out⟩

end Go.Proofs.Ytmlcnfomiemdpaa
