/- order.Read. -/
import Derived.Test.YtomclldnoockcaaParts
namespace Go.Proofs.Ytomclldnoockcaa
open Go.RowKit Go.Shelf
attribute [local go_sem] Oper.semAt_some

/-- An append, in a fenced walk. -/
theorem AtApp.goIn {P : Program} {F : Fence} {n : Nat} {w : World} {ops : Array Oper} {rest : List Oper} {o : Oper} {a : Act} {Q : Exit → Act → World → Prop} {s x : Operand} {t tx : TypeId} {v' : Value} {w' : World} {sv xv : Value}
    (hrun : (Builtin.append_ #[t, tx] o.type #[sv, xv]).run P w = .ok v' w') (hgd : o.guard = none) (ho : o.op = .call { callee := .builtin .append, args := #[s, x], argTypes := #[t, tx] }) (hs : a.eval s = sv) (hx : a.eval x = xv)
    (hK : wpListIn F n P ops Q rest (a.put o.dst v') w') : AtApp (wpListIn F n P ops Q (o :: rest) a w) := by
  refine wpListIn_plain hgd fun K hK' => ?_
  unfold Oper.wpIn
  refine ⟨by simp [Oper.about, ho, resolve, Target.leads, Sem.run_pure], ?_⟩
  rw [Oper.semAt_plain F _ _ (by rw [ho]; intro c hc'; cases hc')]
  simp [execOp, ho, resolve, invoke, builtin, hs, hx, hrun, Result.andThen]
  exact hK' _ _ hK
/-- Block l holds o. -/
def HeapAt (w : World) (l : Nat) (o : Obj) : Prop := w.heap[l]? = some o
/-- The statement, its record under a name. -/
theorem wp_rangeFuncR {P : Program} {g : Operand} {ps : Array Tmp} {assign body : Code} {Q : Exit → Act → World → Prop} {a : Act} {w : World} {gf : Nat} {lb : Array Value} (n : Nat)
    (hg : a.eval g = .func (.func gf) #[] lb) (eg : ∀ args w, (callFunc gf args).run P w = .ok (.enter gf args) w)
    (h : ∀ fn (RL : LoopState → Option Code → Loop), RL = recL fn a.tmps ps assign body w.heap.size → CallsIn Fence.wide n P gf (#[.func (.yield (w.heap.size + 1)) #[] #[]] ++ lb)
      ((w.alloc (.deferred (some []))).alloc (.loop (RL .ready none)))
      (fun e W2 => (∃ v, e = .returned v) ∧ ∃ st pe, st ≠ .busy ∧ W2.heap[w.heap.size + 1]? = some (.loop (RL st pe)) ∧
        (match pe with
         | none => Q .normal { a with defers := markD w.heap.size :: a.defers } (W2.putObj (w.heap.size + 1) (.loop (RL .exhausted none)))
         | some c => c.wp P Q { a with defers := markD w.heap.size :: a.defers } (W2.putObj (w.heap.size + 1) (.loop (RL .exhausted (some c))))))) :
    (Code.rangeFunc g ps assign body).wp P Q a w := wp_rangeFunc n hg eg (fun fn => h fn _ rfl)
theorem yieldAt_recR {P : Program} {RL : LoopState → Option Code → Loop} {l : Nat} {fn : FuncId} {tmps : Array Value} {ps : Array Tmp} {assign body : Code} {D : Nat} {W : World} {xs : Array Value} {R : Ending → World → Prop} {n : Nat}
    (hRL : RL = recL fn tmps ps assign body D) (hl : W.heap[l]? = some (.loop (RL .ready none))) (hs : xs.size = ps.size)
    (h : assign.wpIn (Fence.wide.inRound l) n P (Exit.then (fun a₁ w₁ => HeapAt w₁ l (.loop (RL .ready none)) ∧
      body.wpIn (Fence.wide.inRound l) n P (roundPost P l R) a₁ (w₁.putObj l (.loop (RL .busy none)))) (fun _ _ _ => False))
      { tmps := (ps.zip xs).foldl (fun t (p, v) => t.setIfInBounds p v) tmps, defers := [] } W) :
    YieldAt Fence.wide n P l xs W R := by subst hRL; exact yieldAt_rec hl hs (wpIn_mono h (fun e a w h => by cases e <;> first | exact ⟨h.1, h.2⟩ | exact h))
theorem roundPost_normalR {P : Program} {RL : LoopState → Option Code → Loop} {l : Nat} {fn : FuncId} {tmps : Array Value} {ps : Array Tmp} {assign body : Code} {D : Nat} {W : World} {R : Ending → World → Prop} {a : Act}
    (hRL : RL = recL fn tmps ps assign body D) (hl : W.heap[l]? = some (.loop (RL .busy none)))
    (h : R (.returned (.bool true)) (W.putObj l (.loop (RL .ready none)))) : roundPost P l R .normal a W := by subst hRL; exact roundPost_normal hl h
abbrev OwnP := Own Pt.enc 39 5
theorem infoP : (Try.prog.info? 39).map (fun i => (i.zero, i.size, i.bytes)) = some (some (.agg #[.bool false, .int .i64 0, .int .i64 0, .int .i64 0, .string ⟨#[]⟩]), 5, 48) := by kernel_rfl
/-- One part behind parts of the call's own. -/
theorem appP1 {w : World} {lo : Nat} {v : Value} {xs : List Pt} (h : OwnP lo w v xs) (x : Pt) {n : Nat} (hn : n = w.heap.size) (hb : xs.length ≤ 1000000000) (hlo : lo ≤ w.heap.size) :
    ∃ v' w', (Builtin.append_ #[28, 28] 28 #[v, .slice (some ⟨n, 0, none⟩) 1 1]).run Try.prog (w.alloc (.cells (Pt.enc x).toArray 39)) = .ok v' w' ∧ OwnP lo w' v' (xs ++ [x]) ∧ Appended w v w' v' := by
  subst hn
  have hB : Below w.heap.size w (w.alloc (.cells (Pt.enc x).toArray 39)) := (Below.refl _ _).alloc (Nat.le_refl _) _
  obtain ⟨i0, hi, hz0, hz1, hz2⟩ := info_parts infoP
  have hc := CellsAt.newAt w (Pt.enc x) 39 rfl
  have hs : Src Try.prog 5 28 (.slice (some ⟨w.heap.size, 0, none⟩) 1 1) [x].length ([x].flatMap Pt.enc) (w.alloc (.cells (Pt.enc x).toArray 39)) :=
    Src.ofSlice _ Try.underlying28 _ _ _ _ (by simp [Pt.enc]) (fun j u hu => by rw [Addr.add_lit]; exact hc j u (by simpa using hu)) (fun u hu => by simp [Pt.enc] at hu; rcases hu with rfl | rfl | rfl | rfl | rfl <;> rfl)
  obtain ⟨v', w', hr, ho, ha⟩ := (Own.kept h hB).app _ _ _ i0 _ 48 Try.underlying28 hi hz0 hz1 hz2 rfl hs (by simp only [List.length_cons, List.length_nil]; omega) (by omega) (Nat.le_trans hlo hB.size)
  exact ⟨v', w', hr, ho, (Appended.step v hB).trans ha⟩
theorem OwnP.only {A : Nat → Prop} {lo : Nat} {w w' : World} {v : Value} {xs : List Pt} (h : OwnP lo w v xs) (ho : Only A w w') (hA : ∀ k, A k → k < lo) : OwnP lo w' v xs :=
  ⟨h.1, h.2.imp id fun ⟨g, cap, cur, e, hg, hh, hr⟩ => ⟨g, cap, cur, e, hg, (ho.block g (Array.getElem?_eq_some_iff.1 hh).1 (fun ha => by have := hA g ha; omega)).trans hh, hr⟩⟩

set_option maxRecDepth 100000 in
set_option maxHeartbeats 2000000 in
theorem parts_any (rb : Nat) (kv : Value) (w : World) (hk : kv.oneCell' = true) (R : Ending → World → Prop)
    (hR : R (.returned (.func (.func 42) #[] #[.pointer (some ⟨w.heap.size + 1, 0, none⟩), .pointer (some ⟨w.heap.size, 0, none⟩)]))
      ((w.alloc (.cells #[.pointer (some ⟨rb, 0, none⟩)] 61)).alloc (.cells #[kv] 43))) :
    Calls Try.prog 31 #[.pointer (some ⟨rb, 0, none⟩), kv] w R := by
  go_enter Try.func31, Try.ntmps31
  go_wp2_with fail
  first | exact hR | exact fin hR rfl

set_option maxRecDepth 100000 in
set_option maxHeartbeats 8000000 in
theorem Read_any (hi : Nat) (b : List UInt8) (kinds : List Bool) (bv kv : Value) (w : World) (hb : Bytes 0 hi w bv b) (hk : Bools 0 hi w kv kinds) (hhi : hi ≤ w.heap.size) (hbl : b.length ≤ 100000000) (hkl : kinds.length ≤ 100000000) (R : Ending → World → Prop)
    (hyes : ∀ l, readK kinds b = some l → ∀ w' v, Below w.heap.size w w' → OwnP w.heap.size w' v l → R (.returned (.tuple #[v, .int .i64 0])) w')
    (hno : readK kinds b = none → ∀ w', Below w.heap.size w w' → R (.returned (.tuple #[.slice none 0 0, .int .i64 20])) w') :
    Calls Try.prog 20 #[bv, kv] w R := by
  have Hb := Lib.hid hb
  have Hk := Lib.hid hk
  have Hyes := Lib.hid hyes
  have Hno := Lib.hid hno
  obtain ⟨ao, cap, rfl, h1, h2, -, -⟩ := hb.form
  obtain ⟨ao2, cap2, rfl, h3, h4, -, -⟩ := hk.form
  clear hb hk hyes hno
  refine (callsIn_wide (n := 3)).1 (callsIn_of_wp_marks Try.func20 rfl trivial ?_ rfl)
  refine wpIn_wide.2 ?_
  simp only [Try.ntmps20, List.size_toArray, List.length_cons, Nat.reduceAdd, Nat.reduceSub, Array.replicate_succ, Array.replicate_zero, List.push_toArray, List.append_toArray, List.nil_append, List.cons_append, List.length_nil]
  go_wp2_with fail
  refine parts_any _ _ _ rfl _ ?_
  go_wp2_with fail
  have hW : ∃ W, W = ((((w.alloc (.cells #[.slice ao b.length cap, .bool false] 63)).alloc (.cells #[.slice none 0 0] 28)).alloc (.cells #[.pointer (some ⟨w.heap.size, 0, none⟩)] 61)).alloc (.cells #[.slice ao2 kinds.length cap2] 43)) := ⟨_, rfl⟩
  obtain ⟨W4, hW4⟩ := hW
  have hB4 : Below w.heap.size w W4 := by
    rw [hW4]
    exact ((((Below.refl _ _).alloc (Nat.le_refl _) _).alloc (by simp) _).alloc (by simp; omega) _).alloc (by simp; omega) _
  have hs4 : W4.heap.size = w.heap.size + 1 + 1 + 1 + 1 := by rw [hW4]; simp
  have hr4 : RdAt w.heap.size hi W4 b false := by
    rw [hW4]
    exact ⟨_, (((Blk.new w [.slice ao b.length cap, .bool false] 63 rfl).alloc _).alloc _).alloc _, Hb.out.below (flat_loc _) (by rw [← hW4]; exact hB4) hhi⟩
  have ho4 : Blk W4 (w.heap.size + 1) [.slice none 0 0] 28 := by
    rw [hW4]
    exact ((Blk.new _ [.slice none 0 0] 28 (by simp)).alloc _).alloc _
  have hp4 : Blk W4 (w.heap.size + 1 + 1) [.pointer (some ⟨w.heap.size, 0, none⟩)] 61 := by
    rw [hW4]
    exact (Blk.new _ [.pointer (some ⟨w.heap.size, 0, none⟩)] 61 (by simp)).alloc _
  have hk4 : Blk W4 (w.heap.size + 1 + 1 + 1) [.slice ao2 kinds.length cap2] 43 := by
    rw [hW4]
    exact Blk.new _ [.slice ao2 kinds.length cap2] 43 (by simp)
  have hkk4 := Lib.hid (Sl.below Hk.out (flat_loc _) hB4 hhi)
  rw [← hW4]
  clear hW4
  have Hr4 := Lib.hid hr4
  have Ho4 := Lib.hid ho4
  clear hr4 ho4
  refine wp_rangeFuncR 2 (gf := 42) rfl (enters_of Try.func42 (by kernel_rfl) rfl) (fun fn RL hRL => ?_)
  have HRL := Lib.hid hRL
  clear hRL
  have hB5 : Below W4.heap.size W4 ((W4.alloc (.deferred (some []))).alloc (.loop (RL .ready none))) := ((Below.refl _ _).alloc (Nat.le_refl _) _).alloc (by simp) _
  have hlD : ((W4.alloc (.deferred (some []))).alloc (.loop (RL .ready none))).heap[W4.heap.size]? = some (.deferred (some [])) := (Below.heap_alloc _ _ _ (by simp)).trans (World.alloc_heap_new W4 _)
  have hlL : ((W4.alloc (.deferred (some []))).alloc (.loop (RL .ready none))).heap[W4.heap.size + 1]? = some (.loop (RL .ready none)) := by
    have := World.alloc_heap_new (W4.alloc (.deferred (some []))) (.loop (RL .ready none))
    rwa [World.size_alloc] at this
  have hs5 : ((W4.alloc (.deferred (some []))).alloc (.loop (RL .ready none))).heap.size = W4.heap.size + 2 := by simp
  generalize (W4.alloc (.deferred (some []))).alloc (.loop (RL .ready none)) = W5 at *
  have Hyes2 := Lib.hid Hyes.out
  refine (parts1_any w.heap.size hi W4.heap.size (w.heap.size + 1 + 1 + 1) (w.heap.size + 1 + 1) (w.heap.size + 1) (W4.heap.size + 1) 1 kinds _ b
    (fun out W => Only (fun k => k = w.heap.size ∨ k = w.heap.size + 1) W5 W ∧ (∃ v, Blk W (w.heap.size + 1) [v] 28 ∧ OwnP (W4.heap.size + 2) W v out) ∧ W.heap[W4.heap.size + 1]? = some (.loop (RL .ready none)) ∧ W.heap[W4.heap.size]? = some (.deferred (some [])))
    ?hJ ?hJ2 ?hY hhi (by omega) (by omega) (by omega) (by omega) (by omega) (by omega) (by omega) (by omega) (by omega) (by omega) W5 ?hJ0 (Hr4.out.below hB5 (by omega) (by omega)) (hk4.below hB5 (by omega)).cells.c1 (hp4.below hB5 (by omega)).cells.c1 (Sl.below hkk4.out (flat_loc _) hB5 (by omega)) hbl hkl).mono ?hend
  case hJ =>
    rintro out W W' ⟨j1, ⟨v, j2, j3⟩, j4, j5⟩ ho
    exact ⟨j1.trans (ho.mono (fun k _ e => .inl e)), ⟨v, ho.blk j2 (by omega), OwnP.only j3 ho (fun k e => by omega)⟩, (ho.block _ (by have := j1.size; omega) (by omega)).trans j4, (ho.block _ (by have := j1.size; omega) (by omega)).trans j5⟩
  case hJ2 =>
    rintro out W ⟨j1, -⟩
    have := j1.size
    omega
  case hJ0 => exact ⟨Only.refl _ _, ⟨_, Ho4.out.below hB5 (by omega), Own.nil _ _ _ _ _⟩, hlL, hlD⟩
  case hY =>
    rintro out x W ⟨j1, ⟨v, j2, j3⟩, j4, j5⟩ hlt
    have hsW := j1.size
    have hobW : w.heap.size + 1 < W.heap.size := by omega
    have hlW : W4.heap.size + 1 < W.heap.size := by omega
    have hne1 : w.heap.size + 1 ≠ W4.heap.size + 1 := by omega
    have hne2 : w.heap.size + 1 ≠ W4.heap.size := by omega
    have hne3 : W4.heap.size ≤ W.heap.size := by omega
    have hne4 : w.heap.size + 1 < W4.heap.size := by omega
    have hol : out.length ≤ 1000000000 := by omega
    have Hs5 := Lib.hid hs5
    clear hs4 hs5 hlD hlL hB4 hB5
    generalize hL : W4.heap.size + 1 = L at *
    refine yieldAt_recR HRL.out j4 rfl ?_
    -- the round's own variable
    have HpB := Lib.hid (((Below.refl W.heap.size W).alloc (Nat.le_refl _) (.cells #[.bool x.is, .int .i64 x.n, .int .i64 x.v.kind, .int .i64 x.v.n, .string ⟨x.v.s.toArray⟩] 39)))
    have Hp3 : Hid (Blk (W.alloc (.cells #[.bool x.is, .int .i64 x.n, .int .i64 x.v.kind, .int .i64 x.v.n, .string ⟨x.v.s.toArray⟩] 39)) W.heap.size [.bool x.is, .int .i64 x.n, .int .i64 x.v.kind, .int .i64 x.v.n, .string ⟨x.v.s.toArray⟩] 39) := Blk.new _ _ _ rfl
    have Hj2 := Lib.hid j2
    have Hj3 := Lib.hid j3
    have Hj4 := Lib.hid j4
    have Hj5 := Lib.hid j5
    have Hj1 := Lib.hid j1
    clear j1 j2 j3 j4 j5
    dsimp only [Pt.enc]
    gi_wp2
    have hs2 : (W.alloc (.cells #[.bool x.is, .int .i64 x.n, .int .i64 x.v.kind, .int .i64 x.v.n, .string ⟨x.v.s.toArray⟩] 39)).heap.size = W.heap.size + 1 := by simp
    generalize W.alloc (.cells #[.bool x.is, .int .i64 x.n, .int .i64 x.v.kind, .int .i64 x.v.n, .string ⟨x.v.s.toArray⟩] 39) = W2 at *
    have hl2 : W2.heap[L]? = some (.loop (RL .ready none)) := (HpB.out.block L hlW).trans Hj4.out
    refine ⟨hl2, ?_⟩
    have ho3 : Only (· = L) W2 (W2.putObj L (.loop (RL .busy none))) := Only.putObj (A := (· = L)) W2 (b := L) rfl _
    have hl3 : (W2.putObj L (.loop (RL .busy none))).heap[L]? = some (.loop (RL .busy none)) := World.putObj_heap_same (by omega)
    have hs3 : (W2.putObj L (.loop (RL .busy none))).heap.size = W.heap.size + 1 := by rw [World.putObj_size, hs2]
    generalize W2.putObj L (.loop (RL .busy none)) = W3 at *
    have hob3 := ho3.blk (Hj2.out.below HpB.out hobW) (by omega)
    have hp3 := ho3.blk Hp3.out (by omega)
    have hoP : OwnP (W4.heap.size + 2) W3 v out := OwnP.only (Own.kept Hj3.out HpB.out) ho3 (fun k e => by omega)
    have hD3 : W3.heap[W4.heap.size]? = some (.deferred (some [])) := (ho3.block _ (by omega) (by omega)).trans ((HpB.out.block _ (by omega)).trans Hj5.out)
    have hB3 : Only (· = L) W W3 := (Below.only HpB.out).trans ho3
    have c0 := hob3.cells.c1
    have f0 := hob3.free 0
    obtain ⟨q0, q1, q2, q3, q4⟩ := hp3.cells.c5
    simp only [Nat.zero_add] at q1 q2 q3 q4
    have hob3l := hob3.lt
    have Hob3 := Lib.hid hob3
    have HoP := Lib.hid hoP
    clear hob3 hp3 hoP hl2 ho3 HpB Hp3 hs2
    have hsB : W4.heap.size + 2 ≤ W3.heap.size := by have := Hs5.out; have := Hj1.out.size; omega
    gi_wp2_with (gi_at_builtin; refine AtApp.of ?_)
    obtain ⟨v8, W8, hr, ho8, ha8⟩ := appP1 HoP.out x (n := W.heap.size + 1) hs3.symm hol hsB
    refine AtApp.goIn hr rfl rfl rfl rfl ?_
    obtain ⟨g8, cap8, rfl, g1, g2, g3, g4, -, -⟩ := Own.form ho8 (by simp)
    have hl8n : (out ++ [x]).length = out.length + 1 := by simp
    rw [hl8n] at ho8 ha8 ⊢
    have hB8 : Below (W4.heap.size + 2) W3 W8 := ha8.below hsB (fun k e => (Own.lt HoP.out k e).1)
    have hob8 := Hob3.out.below hB8 (by omega)
    have hl8 : W8.heap[L]? = some (.loop (RL .busy none)) := (hB8.block L (by omega)).trans hl3
    have hD8 : W8.heap[W4.heap.size]? = some (.deferred (some [])) := (hB8.block _ (by omega)).trans hD3
    have c8 := hob8.cells.c1
    have f8 := hob8.free 0
    have hl8' := hob8.lt
    have Hob8 := Lib.hid hob8
    have Ho8 := Lib.hid ho8
    have Hl8 := Lib.hid hl8
    have HD8 := Lib.hid hD8
    have hs8 := hB8.size
    clear hr ho8 ha8 hob8 hl8 hD8 hl3 hD3 c0 f0 q0 q1 q2 q3 q4
    gi_wp2
    have hB9 : Below (W4.heap.size + 2) W8 W8 := Below.refl _ _
    have h9 : Only (· = w.heap.size + 1) W8 (W8.setCell ⟨w.heap.size + 1, 0, none⟩ (.slice (some ⟨g8, 0, none⟩) (out.length + 1) cap8)) := Only.setCell (A := (· = w.heap.size + 1)) W8 (p := ⟨w.heap.size + 1, 0, none⟩) rfl _
    have hob9 := Hob8.out.set 0 (.slice (some ⟨g8, 0, none⟩) (out.length + 1) cap8)
    have hl9 := (h9.block L (by omega) (by omega)).trans Hl8.out
    have hD9 := (h9.block W4.heap.size (by omega) (by omega)).trans HD8.out
    have hs9 := h9.size
    refine roundPost_normalR HRL.out hl9 ?_
    have h10 : Only (· = L) (W8.setCell ⟨w.heap.size + 1, 0, none⟩ (.slice (some ⟨g8, 0, none⟩) (out.length + 1) cap8)) ((W8.setCell ⟨w.heap.size + 1, 0, none⟩ (.slice (some ⟨g8, 0, none⟩) (out.length + 1) cap8)).putObj L (.loop (RL .ready none))) := Only.putObj (A := (· = L)) _ (b := L) rfl _
    have hl10 : ((W8.setCell ⟨w.heap.size + 1, 0, none⟩ (.slice (some ⟨g8, 0, none⟩) (out.length + 1) cap8)).putObj L (.loop (RL .ready none))).heap[L]? = some (.loop (RL .ready none)) := World.putObj_heap_same (by omega)
    have hob10 := h10.blk hob9 (by omega)
    have ho10 := OwnP.only (OwnP.only Ho8.out h9 (fun k e => by omega)) h10 (fun k e => by omega)
    have hD10 := (h10.block W4.heap.size (by omega) (by omega)).trans hD9
    have hs10 := h10.size
    generalize (W8.setCell ⟨w.heap.size + 1, 0, none⟩ (.slice (some ⟨g8, 0, none⟩) (out.length + 1) cap8)).putObj L (.loop (RL .ready none)) = W10 at *
    generalize W8.setCell ⟨w.heap.size + 1, 0, none⟩ (.slice (some ⟨g8, 0, none⟩) (out.length + 1) cap8) = W9 at *
    have hchain : ∀ k, k < W3.heap.size → k ≠ L → k ≠ w.heap.size + 1 → k < W4.heap.size + 2 → W10.heap[k]? = W3.heap[k]? := fun k h1 h2 h3 h4 =>
      (h10.block k (by omega) h2).trans ((h9.block k (by omega) h3).trans (hB8.block k h4))
    have hgW : W.heap.size ≤ W3.heap.size := hB3.size
    refine ⟨rfl, ⟨⟨?_, ?_, ?_, ?_, fun k hk hn => ?_⟩, ⟨_, hob10, ho10⟩, hl10, hD10⟩, ⟨?_, ?_, ?_, ?_, fun k hk hn => ?_⟩⟩
    · exact h10.os.trans (h9.os.trans (hB8.os.trans (hB3.os.trans Hj1.out.os)))
    · exact h10.tape.trans (h9.tape.trans (hB8.tape.trans (hB3.tape.trans Hj1.out.tape)))
    · exact h10.output.trans (h9.output.trans (hB8.output.trans (hB3.output.trans Hj1.out.output)))
    · have := Hj1.out.size; omega
    · have hk2 : k < W4.heap.size + 2 := by have := Hs5.out; omega
      by_cases hkL : k = L
      · subst hkL
        exact hl10.trans (Hj4.out.symm.trans (Hj1.out.block k hk hn))
      · exact (hchain k (by omega) hkL (fun e => hn (.inr e)) hk2).trans ((hB3.block k (by have := Hj1.out.size; omega) hkL).trans (Hj1.out.block k hk hn))
    · exact h10.os.trans (h9.os.trans (hB8.os.trans hB3.os))
    · exact h10.tape.trans (h9.tape.trans (hB8.tape.trans hB3.tape))
    · exact h10.output.trans (h9.output.trans (hB8.output.trans hB3.output))
    · omega
    · exact (hchain k (by omega) (by omega) (by omega) (by omega)).trans (hB3.block k hk (by omega))
  case hend =>
    rintro e W6 ⟨⟨v, rfl⟩, out, r, bad, ⟨j1, ⟨v2, j2, j3⟩, j4, j5⟩, hrd, hres⟩
    refine ⟨⟨v, rfl⟩, .ready, none, by simp, j4, ?_⟩
    have hs6 := j1.size
    have hlt : W4.heap.size + 1 < W6.heap.size := by omega
    have h7 : Only (· = W4.heap.size + 1) W6 (W6.putObj (W4.heap.size + 1) (.loop (RL .exhausted none))) := Only.putObj (A := (· = W4.heap.size + 1)) _ (b := W4.heap.size + 1) rfl _
    show Exit.inBlock 0 _ Exit.normal _ (W6.putObj (W4.heap.size + 1) (.loop (RL .exhausted none)))
    have hs7 : (W6.putObj (W4.heap.size + 1) (.loop (RL .exhausted none))).heap.size = W6.heap.size := World.putObj_size
    generalize W6.putObj (W4.heap.size + 1) (.loop (RL .exhausted none)) = W7 at *
    have hrd7 := hrd.only h7 (by omega) (fun k e => by omega) (by omega)
    have hob7 := h7.blk j2 (by omega)
    have ho7 := OwnP.only j3 h7 (fun k e => by omega)
    have hD7 : W7.heap[W4.heap.size]? = some (.deferred (some [])) := (h7.block _ (by omega) (by omega)).trans j5
    have hB7 : Below w.heap.size w W7 := (hB4.trans (hB5.mono (by omega))).trans (((j1.below (B := w.heap.size) (by omega) (fun k e => by omega))).trans (h7.below (B := w.heap.size) (by omega) (fun k e => by omega)))
    have hB8 : Below w.heap.size w (W7.putObj W4.heap.size (.deferred none)) := hB7.trans ((Only.putObj (A := (· = W4.heap.size)) W7 (b := W4.heap.size) rfl (.deferred none)).below (B := w.heap.size) (by omega) (fun k e => by omega))
    have ho8 : OwnP (W4.heap.size + 2) (W7.putObj W4.heap.size (.deferred none)) v2 out := OwnP.only ho7 (Only.putObj (A := (· = W4.heap.size)) W7 (b := W4.heap.size) rfl (.deferred none)) (fun k e => by omega)
    have ho8' : OwnP w.heap.size (W7.putObj W4.heap.size (.deferred none)) v2 out := ⟨ho8.1, ho8.2.imp id fun ⟨g, cp, cur, e, hg, hh⟩ => ⟨g, cp, cur, e, by omega, hh⟩⟩
    have Ho8 := Lib.hid ho8'
    have HD7 := Lib.hid hD7
    obtain ⟨sv, hrb, hsv⟩ := hrd7
    obtain ⟨ao7, cap7, rfl, -, -, -, -⟩ := hsv.form
    obtain ⟨c0, c1⟩ := hrb.cells.c2
    simp only [Nat.zero_add] at c1
    have d0 := hob7.cells.c1
    have hpe : ∀ (K : Prop), K → K := fun _ h => h
    clear hpe hs4 hp4 hk4 hB5 hlD hlL hs5 j1 j2 j3 j4 j5 hrd h7 hob7 ho7 hD7 hrb hsv ho8 ho8' hB7 hs6 hs7 hlt
    rcases hres with ⟨rfl, hres⟩ | ⟨rfl, hres⟩
    · cases r with
      | nil =>
        have hr := Hyes.out out (by rw [hres]; rfl) _ v2 hB8 Ho8.out
        clear hres
        go_wp2_with fail
        refine ⟨by simp, .inl ⟨_, _, rfl, run_takeDeferred HD7.out, ?_⟩⟩
        exact ⟨_, results_tmp2 (t := 4) (u := 5) rfl _ _ _, fin hr rfl⟩
      | cons c r =>
        have hr := Hno.out (by rw [hres]; rfl) _ hB8
        have hl : ((c :: r).length : Int) = (r.length : Int) + 1 := by simp
        have hl2 : (0 : Int) < (r.length : Int) + 1 := by omega
        clear hres
        rw [show (c :: r).length = r.length + 1 from rfl] at c0
        go_wp2_with fail
        refine ⟨by simp, .inl ⟨_, _, rfl, run_takeDeferred HD7.out, ?_⟩⟩
        exact ⟨_, results_tmp2 (t := 4) (u := 5) rfl _ _ _, fin hr rfl⟩
    · have hr := Hno.out hres _ hB8
      clear hres
      go_wp2_with fail
      refine ⟨by simp, .inl ⟨_, _, rfl, run_takeDeferred HD7.out, ?_⟩⟩
      exact ⟨_, results_tmp2 (t := 4) (u := 5) rfl _ _ _, fin hr rfl⟩
end Go.Proofs.Ytomclldnoockcaa
