/- What two sets share: span.shared. (Printed by spnb.py.) -/
import Derived.Test.YtkcpanaojehgiaaSpnA
import Derived.Test.YtkcpanaojehgiaaSchF
namespace Go.Proofs.Ytkcpanaojehgiaa
open Go.RowKit Go.Shelf
set_option linter.unusedVariables false
set_option linter.unusedSimpArgs false
attribute [local go_sem] Oper.semAt_some

abbrev OwnS := Own Sp.enc 58 2
theorem infoS : (Try.prog.info? 58).map (fun i => (i.zero, i.size, i.bytes)) = some (some (.agg #[.int .i64 0, .int .i64 0]), 2, 16) := by kernel_rfl
theorem OwnS.spans {lo : Nat} {w : World} {v : Value} {xs : List Sp} (h : OwnS lo w v xs) : Spans lo w.heap.size w v xs := Sl.ofOwn (fun _ => rfl) h
theorem appS1 {w : World} {lo : Nat} {v : Value} {xs : List Sp} (h : OwnS lo w v xs) (x : Sp) {n : Nat} (hn : n = w.heap.size) (hb : xs.length ≤ 8000000000000) (hlo : lo ≤ w.heap.size) :
    ∃ v' w', (Builtin.append_ #[43, 43] 43 #[v, .slice (some ⟨n, 0, none⟩) 1 1]).run Try.prog (w.alloc (.cells #[.int .i64 x.f, .int .i64 x.t] 58)) = .ok v' w' ∧ OwnS lo w' v' (xs ++ [x]) ∧ Appended w v w' v' := by
  subst hn
  have hB := alloc_below w (.cells x.enc.toArray 58)
  obtain ⟨i0, hi, hz0, hz1, hz2⟩ := info_parts infoS
  have hc := CellsAt.newAt w x.enc 58 rfl
  have hs : Src Try.prog 2 43 (.slice (some ⟨w.heap.size, 0, none⟩) 1 1) [x].length ([x].flatMap Sp.enc) (w.alloc (.cells x.enc.toArray 58)) :=
    Src.ofSlice _ Try.underlying43 _ _ _ _ (by simp [Sp.enc]) (fun j u hu => by rw [Addr.add_lit]; exact hc j u (by simpa using hu)) (fun u hu => by
      simp only [List.flatMap_cons, List.flatMap_nil, List.append_nil, Sp.enc, List.mem_cons, List.not_mem_nil, or_false] at hu
      rcases hu with rfl | rfl <;> rfl)
  obtain ⟨v', w', hr, ho, ha⟩ := (Own.kept h hB).app _ _ _ i0 _ 16 Try.underlying43 hi hz0 hz1 hz2 rfl hs (by simp only [List.length_cons, List.length_nil]; omega) (by omega) (Nat.le_trans hlo hB.size)
  exact ⟨v', w', hr, ho, (Appended.step v hB).trans ha⟩
theorem meets_any (v1 v2 : Value) (a1 a2 : Option Addr) (n1 c1 n2 c2 : Nat) (h1 : v1 = .slice a1 n1 c1) (h2 : v2 = .slice a2 n2 c2) (w : World) (R : Ending → World → Prop)
    (hR : R (.returned (.func (.func 91) #[] #[.pointer (some ⟨w.heap.size, 0, none⟩), .pointer (some ⟨w.heap.size + 1, 0, none⟩)])) ((w.alloc (.cells #[v1] 43)).alloc (.cells #[v2] 43))) :
    Calls Try.prog 83 #[v1, v2] w R := by
  subst h1 h2
  go_enter Try.func83, Try.ntmps83
  go_wp2_with fail
  first | exact hR | exact fin hR rfl
/-- What holds between the rounds of 'shared'. -/
structure ShJ (lo hi ob ka kb L D : Nat) (w : World) (rc : Obj) (A B e : List Sp) (W : World) : Prop where
  b : Below w.heap.size w W
  sa : ∃ v, Blk W ka [v] 43 ∧ Spans lo hi W v A
  sb : ∃ v, Blk W kb [v] 43 ∧ Spans lo hi W v B
  o : ∃ v, Blk W ob [v] 43 ∧ OwnS w.heap.size W v e ∧ ∀ x ∈ [ob, ka, kb, L, D], v.ownBlock ≠ some x
  lp : W.heap[L]? = some rc
  df : W.heap[D]? = some (.deferred (some []))
theorem heap_lt {w : World} {k : Nat} {o : Obj} (h : w.heap[k]? = some o) : k < w.heap.size := (Array.getElem?_eq_some_iff.1 h).1
theorem ShJ.grow {lo hi ob ka kb L D : Nat} {w W W' : World} {rc : Obj} {A B e : List Sp} (h : ShJ lo hi ob ka kb L D w rc A B e W) (hhi : hi ≤ w.heap.size) (hB : Below W.heap.size W W') : ShJ lo hi ob ka kb L D w rc A B e W' := by
  obtain ⟨va, h1, h2⟩ := h.sa
  obtain ⟨vb, h3, h4⟩ := h.sb
  obtain ⟨vo, h5, h6, h7⟩ := h.o
  have hz := h.b.size
  exact ⟨h.b.trans (hB.mono hz), ⟨va, h1.below hB h1.lt, Sl.below h2 Sp.loc hB (by omega)⟩, ⟨vb, h3.below hB h3.lt, Sl.below h4 Sp.loc hB (by omega)⟩, ⟨vo, h5.below hB h5.lt, Own.kept h6 hB, h7⟩, (hB.block L (heap_lt h.lp)).trans h.lp, (hB.block D (heap_lt h.df)).trans h.df⟩
theorem ShJ.on {lo hi ob ka kb L D : Nat} {w W W' : World} {rc : Obj} {A B e e' : List Sp} {X : Nat → Prop} (h : ShJ lo hi ob ka kb L D w rc A B e W) (hhi : hi ≤ w.heap.size) (hO : Only X W W') (hka : ¬ X ka) (hkb : ¬ X kb) (hD : ¬ X D) (hX : ∀ z, X z → w.heap.size ≤ z)
    (hl : W'.heap[L]? = some rc) (ho : ∃ v, Blk W' ob [v] 43 ∧ OwnS w.heap.size W' v e' ∧ ∀ x ∈ [ob, ka, kb, L, D], v.ownBlock ≠ some x) : ShJ lo hi ob ka kb L D w rc A B e' W' := by
  obtain ⟨va, h1, h2⟩ := h.sa
  obtain ⟨vb, h3, h4⟩ := h.sb
  have hz := h.b.size
  exact ⟨h.b.trans (hO.below hz hX), ⟨va, hO.blk h1 hka, Sl.agree h2 Sp.loc (fun z z1 z2 => hO.block z (by omega) (fun e => by have := hX z e; omega))⟩, ⟨vb, hO.blk h3 hkb, Sl.agree h4 Sp.loc (fun z z1 z2 => hO.block z (by omega) (fun e => by have := hX z e; omega))⟩,
    ho, hl, (hO.block D (heap_lt h.df) hD).trans h.df⟩
theorem ShJ.setA {lo hi ob ka kb L D : Nat} {w W : World} {rc : Obj} {A A' B e : List Sp} {v : Value} (h : ShJ lo hi ob ka kb L D w rc A B e W) (hhi : hi ≤ w.heap.size) (hka : w.heap.size ≤ ka) (h1 : ka ≠ kb) (h2 : ka ≠ ob) (h3 : ka ≠ L) (h4 : ka ≠ D) (hv : Spans lo hi W v A') : ShJ lo hi ob ka kb L D w rc A' B e (W.setCell ⟨ka, 0, none⟩ v) := by
  obtain ⟨va, g1, g2⟩ := h.sa
  obtain ⟨vb, g3, g4⟩ := h.sb
  obtain ⟨vo, g5, g6, g7⟩ := h.o
  have hO : Only (· = ka) W (W.setCell ⟨ka, 0, none⟩ v) := Only.setCell (A := (· = ka)) W (p := ⟨ka, 0, none⟩) rfl _
  have hz := h.b.size
  have hS : ∀ {u : Value} {l : List Sp}, Spans lo hi W u l → Spans lo hi (W.setCell ⟨ka, 0, none⟩ v) u l := fun hh => Sl.agree hh Sp.loc (fun z z1 z2 => hO.block z (by omega) (by omega))
  exact ⟨h.b.setCell (p := ⟨ka, 0, none⟩) hka _, ⟨v, g1.set 0 v, hS hv⟩, ⟨vb, hO.blk g3 (Ne.symm h1), hS g4⟩, ⟨vo, hO.blk g5 (Ne.symm h2), Own.only g6 hO (fun z e => by rw [e]; exact g7 _ (by simp)), g7⟩,
    (hO.block L (heap_lt h.lp) (Ne.symm h3)).trans h.lp, (hO.block D (heap_lt h.df) (Ne.symm h4)).trans h.df⟩
theorem ShJ.setB {lo hi ob ka kb L D : Nat} {w W : World} {rc : Obj} {A B B' e : List Sp} {v : Value} (h : ShJ lo hi ob ka kb L D w rc A B e W) (hhi : hi ≤ w.heap.size) (hkb : w.heap.size ≤ kb) (h1 : ka ≠ kb) (h2 : kb ≠ ob) (h3 : kb ≠ L) (h4 : kb ≠ D) (hv : Spans lo hi W v B') : ShJ lo hi ob ka kb L D w rc A B' e (W.setCell ⟨kb, 0, none⟩ v) := by
  obtain ⟨va, g1, g2⟩ := h.sa
  obtain ⟨vb, g3, g4⟩ := h.sb
  obtain ⟨vo, g5, g6, g7⟩ := h.o
  have hO : Only (· = kb) W (W.setCell ⟨kb, 0, none⟩ v) := Only.setCell (A := (· = kb)) W (p := ⟨kb, 0, none⟩) rfl _
  have hz := h.b.size
  have hS : ∀ {u : Value} {l : List Sp}, Spans lo hi W u l → Spans lo hi (W.setCell ⟨kb, 0, none⟩ v) u l := fun hh => Sl.agree hh Sp.loc (fun z z1 z2 => hO.block z (by omega) (by omega))
  exact ⟨h.b.setCell (p := ⟨kb, 0, none⟩) hkb _, ⟨va, hO.blk g1 h1, hS g2⟩, ⟨v, g3.set 0 v, hS hv⟩, ⟨vo, hO.blk g5 (Ne.symm h2), Own.only g6 hO (fun z e => by rw [e]; exact g7 _ (by simp)), g7⟩,
    (hO.block L (heap_lt h.lp) (Ne.symm h3)).trans h.lp, (hO.block D (heap_lt h.df) (Ne.symm h4)).trans h.df⟩
set_option maxRecDepth 100000 in
set_option maxHeartbeats 8000000 in
theorem shared_any (lo hi : Nat) (a b : List Sp) (va vb : Value) (w : World) (hva : Spans lo hi w va a) (hvb : Spans lo hi w vb b) (hhi : hi ≤ w.heap.size) (hla : a.length ≤ 2000000000000) (hlb : b.length ≤ 2000000000000) (R : Ending → World → Prop)
    (hR : ∀ w' v', Below w.heap.size w w' → OwnS w.heap.size w' v' (sharedL a b) → R (.returned v') w') : Calls Try.prog 75 #[va, vb] w R := by
  have HR := Lib.hid hR
  have Hva := Lib.hid hva
  have Hvb := Lib.hid hvb
  obtain ⟨aa, ca, rfl, -, -, -, -⟩ := hva.form
  obtain ⟨ab, cb, rfl, -, -, -, -⟩ := hvb.form
  clear hR hva hvb
  refine (callsIn_wide (n := 3)).1 (callsIn_of_wp_marks Try.func75 rfl trivial ?_ rfl)
  refine wpIn_wide.2 ?_
  simp only [Try.ntmps75, List.size_toArray, List.length_cons, Nat.reduceAdd, Nat.reduceSub, Array.replicate_succ, Array.replicate_zero, List.push_toArray, List.append_toArray, List.nil_append, List.cons_append, List.length_nil]
  have hB1 := alloc_below w (.cells #[.slice none 0 0] 43)
  have hob := Blk.new w [.slice none 0 0] 43 rfl
  have hs1 : (w.alloc (.cells #[.slice none 0 0] 43)).heap.size = w.heap.size + 1 := by simp
  go_upto_region 2 with fail
  generalize w.alloc (.cells #[.slice none 0 0] 43) = w1 at *
  go_wp2_with fail
  refine meets_any _ _ aa ab a.length ca b.length cb rfl rfl w1 _ ?_
  have hBa := alloc_below w1 (.cells #[.slice aa a.length ca] 43)
  have hka := Blk.new w1 [.slice aa a.length ca] 43 rfl
  have hsa : (w1.alloc (.cells #[.slice aa a.length ca] 43)).heap.size = w1.heap.size + 1 := by simp
  have hBb := alloc_below (w1.alloc (.cells #[.slice aa a.length ca] 43)) (.cells #[.slice ab b.length cb] 43)
  have hkb := Blk.new (w1.alloc (.cells #[.slice aa a.length ca] 43)) [.slice ab b.length cb] 43 hsa.symm
  have hs4 : ((w1.alloc (.cells #[.slice aa a.length ca] 43)).alloc (.cells #[.slice ab b.length cb] 43)).heap.size = w.heap.size + 3 := by simp [hs1]
  have hka4 := hka.below hBb hka.lt
  have hB4 := hBa.trans (hBb.mono hBa.size)
  go_wp2_with fail
  generalize (w1.alloc (.cells #[.slice aa a.length ca] 43)).alloc (.cells #[.slice ab b.length cb] 43) = W4 at *
  clear hka hBa hBb hsa
  refine wp_rangeFuncR 2 (gf := 91) rfl (enters_of Try.func91 (by kernel_rfl) rfl) (fun fn RL hRL => ?_)
  have HRL := Lib.hid hRL
  clear hRL
  have hB5 : Below W4.heap.size W4 ((W4.alloc (.deferred (some []))).alloc (.loop (RL .ready none))) := ((Below.refl _ _).alloc (Nat.le_refl _) _).alloc (by simp) _
  have hlD : ((W4.alloc (.deferred (some []))).alloc (.loop (RL .ready none))).heap[W4.heap.size]? = some (.deferred (some [])) := (Below.heap_alloc _ _ _ (by simp)).trans (World.alloc_heap_new W4 _)
  have hlL : ((W4.alloc (.deferred (some []))).alloc (.loop (RL .ready none))).heap[W4.heap.size + 1]? = some (.loop (RL .ready none)) := by
    have := World.alloc_heap_new (W4.alloc (.deferred (some []))) (.loop (RL .ready none))
    rwa [World.size_alloc] at this
  have hs5 : ((W4.alloc (.deferred (some []))).alloc (.loop (RL .ready none))).heap.size = W4.heap.size + 2 := by simp
  generalize (W4.alloc (.deferred (some []))).alloc (.loop (RL .ready none)) = W5 at *
  have hobl := hob.lt
  have hkal := hka4.lt
  have hkbl := hkb.lt
  have hB15 := hB4.trans (hB5.mono (by omega))
  have hB05 : Below w.heap.size w W5 := hB1.trans (hB15.mono (by omega))
  rw [hs1] at hka4 hkb hkal hkbl
  have hJ0 : ShJ lo hi w.heap.size (w.heap.size + 1) (w.heap.size + 1 + 1) (W4.heap.size + 1) W4.heap.size w (.loop (RL .ready none)) a b [] W5 := {
    b := hB05
    sa := ⟨_, hka4.below hB5 hkal, Sl.below Hva.out Sp.loc hB05 hhi⟩
    sb := ⟨_, hkb.below hB5 hkbl, Sl.below Hvb.out Sp.loc hB05 hhi⟩
    o := ⟨_, hob.below hB15 hobl, Own.nil _ _ _ _ _, fun x hx e => by cases e⟩
    lp := hlL
    df := hlD }
  refine (meets1_any 1 (W4.heap.size + 1) (w.heap.size + 1) (w.heap.size + 1 + 1) lo hi a b (ShJ lo hi w.heap.size (w.heap.size + 1) (w.heap.size + 1 + 1) (W4.heap.size + 1) W4.heap.size w (.loop (RL .ready none))) (by omega) (by omega) ?hc ?hgrow ?hY ?hstA ?hstB W5 hJ0).mono ?hend
  case hc =>
    intro A B e W h
    obtain ⟨va, h1, h2⟩ := h.sa
    obtain ⟨vb, h3, h4⟩ := h.sb
    exact ⟨va, vb, h1.cells.c1, h1.free 0, h2, h3.cells.c1, h3.free 0, h4⟩
  case hgrow => intro A B e W W' h hB; exact h.grow hhi hB
  case hstA => intro x A B e W v h hv; exact h.setA hhi (by omega) (by omega) (by omega) (by omega) (by omega) hv
  case hstB => intro A y B e W v h hv; exact h.setB hhi (by omega) (by omega) (by omega) (by omega) (by omega) hv
  case hY =>
    intro A B e W s hJ hle
    obtain ⟨vo, hou, hoo, hon⟩ := hJ.o
    obtain ⟨po, co, rfl⟩ := Own.slice hoo
    have hob1 := hJ.b.size
    have hlL1 := heap_lt hJ.lp
    have HJ := Lib.hid hJ
    have Hou := Lib.hid hou
    have Hoo := Lib.hid hoo
    have Hon := Lib.hid hon
    have Hs4 := Lib.hid hs4
    clear hs5 hlD hlL hB5 hJ0 hB05 hB15 hB4 hka4 hkb hob hs4 hkal hkbl hJ hou hoo hon
    generalize hL : W4.heap.size + 1 = L at *
    have hba := alloc_below W (.cells #[.int .i64 s.f, .int .i64 s.t] 58)
    have hbs := Blk.new W [.int .i64 s.f, .int .i64 s.t] 58 rfl
    refine yieldAt_recR HRL.out HJ.out.lp rfl ?_
    gi_wp2_with fail
    have hsb : (W.alloc (.cells #[.int .i64 s.f, .int .i64 s.t] 58)).heap.size = W.heap.size + 1 := by simp
    have hJb := HJ.out.grow hhi hba
    have houb := Hou.out.below hba Hou.out.lt
    have hoob := Own.kept Hoo.out hba
    have HOa : Hid (Only (· = L) W (W.alloc (.cells #[.int .i64 s.f, .int .i64 s.t] 58))) := Lib.hid (Below.only hba)
    refine ⟨hJb.lp, ?_⟩
    generalize W.alloc (.cells #[.int .i64 s.f, .int .i64 s.t] 58) = Wb at *
    have ho3 : Only (· = L) Wb (Wb.putObj L (.loop (RL .busy none))) := Only.putObj (A := (· = L)) Wb (b := L) rfl _
    have hl3 : (Wb.putObj L (.loop (RL .busy none))).heap[L]? = some (.loop (RL .busy none)) := World.putObj_heap_same (by omega)
    have hs3 : (Wb.putObj L (.loop (RL .busy none))).heap.size = Wb.heap.size := World.putObj_size
    generalize Wb.putObj L (.loop (RL .busy none)) = W3 at *
    have hou3 := ho3.blk houb (by have := Hs4.out; omega)
    have hoo3 := Own.only hoob ho3 (fun z e => by rw [e]; exact Hon.out L (by simp))
    have hbs3 := ho3.blk hbs (by omega)
    have HO3 := Lib.hid (HOa.out.trans ho3)
    have c3 := hou3.cells.c1
    obtain ⟨s0, s1⟩ := hbs3.cells.c2
    have Hou3 := Lib.hid hou3
    have Hoo3 := Lib.hid hoo3
    have Hl3 := Lib.hid hl3
    have hel : e.length ≤ 8000000000000 := by omega
    clear hba hJb houb hoob ho3 hou3 hoo3 hbs3 hbs hl3
    gi_wp2_with (gi_at_builtin; refine AtApp.of ?_)
    obtain ⟨v8, W8, hr8, ho8, ha8⟩ := appS1 Hoo3.out s (n := W3.heap.size) rfl hel (by omega)
    rw [hs3, hsb] at hr8
    refine AtApp.goIn hr8 rfl rfl rfl rfl ?_
    obtain ⟨g8, cap8, rfl, -, -, -, -, -, -⟩ := Own.form ho8 (by simp)
    have hl8n : (e ++ [s]).length = e.length + 1 := by simp
    rw [hl8n] at ho8 ha8 ⊢
    have hon8 : ∀ x ∈ [w.heap.size, w.heap.size + 1, w.heap.size + 1 + 1, L, W4.heap.size], (Value.slice (some ⟨g8, 0, none⟩) (e.length + 1) cap8).ownBlock ≠ some x := fun x hx => by
      refine ha8.apart ?_ (Hon.out x hx)
      simp only [List.mem_cons, List.not_mem_nil, or_false] at hx
      have := Hs4.out
      omega
    have hO8 : Only (fun z => Value.ownBlock (.slice po e.length co) = some z) W3 W8 := ⟨ha8.grown.os, ha8.grown.tape, ha8.grown.output, ha8.grown.size, fun k hk hne => ha8.grown.block k hk (fun e => hne e.symm)⟩
    have hs8 := hO8.size
    have hou8 := hO8.blk Hou3.out (Hon.out _ (by simp))
    have hl8 := (hO8.block L (by omega) (Hon.out L (by simp))).trans Hl3.out
    have hgo : ∀ z, Value.ownBlock (.slice po e.length co) = some z → w.heap.size ≤ z := fun z hz => (Own.lt Hoo3.out z hz).1
    have c8 := hou8.cells.c1
    have f8 := hou8.free 0
    have Hou8 := Lib.hid hou8
    have Ho8 := Lib.hid ho8
    have Hl8 := Lib.hid hl8
    have HO8 := Lib.hid hO8
    have Hon8 := Lib.hid hon8
    have Hgo := Lib.hid hgo
    clear hr8 ho8 ha8 hou8 hl8 hO8 hon8 c3 hgo s0 s1
    gi_wp2_with fail
    have h9 : Only (· = w.heap.size) W8 (W8.setCell ⟨w.heap.size, 0, none⟩ (.slice (some ⟨g8, 0, none⟩) (e.length + 1) cap8)) := Only.setCell (A := (· = w.heap.size)) W8 (p := ⟨w.heap.size, 0, none⟩) rfl _
    have hs9 := h9.size
    have hl9 := (h9.block L (by omega) (by have := Hs4.out; omega)).trans Hl8.out
    refine roundPost_normalR HRL.out hl9 ?_
    have hou9 := Hou8.out.set 0 (.slice (some ⟨g8, 0, none⟩) (e.length + 1) cap8)
    have hoo9 := Own.only Ho8.out h9 (fun z e => by rw [e]; exact Hon8.out _ (by simp))
    have h10 : Only (· = L) (W8.setCell ⟨w.heap.size, 0, none⟩ (.slice (some ⟨g8, 0, none⟩) (e.length + 1) cap8)) ((W8.setCell ⟨w.heap.size, 0, none⟩ (.slice (some ⟨g8, 0, none⟩) (e.length + 1) cap8)).putObj L (.loop (RL .ready none))) := Only.putObj (A := (· = L)) _ (b := L) rfl _
    have hl10 : ((W8.setCell ⟨w.heap.size, 0, none⟩ (.slice (some ⟨g8, 0, none⟩) (e.length + 1) cap8)).putObj L (.loop (RL .ready none))).heap[L]? = some (.loop (RL .ready none)) := World.putObj_heap_same (by omega)
    have hg : ∀ x ∈ [w.heap.size, w.heap.size + 1, w.heap.size + 1 + 1, L, W4.heap.size], ¬ (Value.ownBlock (.slice po e.length co) = some x) := fun x hx => Hon.out x hx
    have hOA : Only (fun z => z = L ∨ z = w.heap.size ∨ Value.ownBlock (.slice po e.length co) = some z) W ((W8.setCell ⟨w.heap.size, 0, none⟩ (.slice (some ⟨g8, 0, none⟩) (e.length + 1) cap8)).putObj L (.loop (RL .ready none))) :=
      (HO3.out.mono (fun _ _ e => .inl e)).trans ((HO8.out.mono (fun z _ e => .inr (.inr e))).trans ((h9.mono (fun _ _ e => .inr (.inl e))).trans (h10.mono (fun _ _ e => .inl e))))
    refine ⟨rfl, HJ.out.on hhi hOA ?_ ?_ ?_ (fun z e => ?_) hl10 ⟨_, h10.blk hou9 (by have := Hs4.out; omega), Own.only hoo9 h10 (fun z e => by rw [e]; exact Hon8.out L (by simp)), Hon8.out⟩⟩
    · rintro (h | h | h)
      · have := Hs4.out; omega
      · omega
      · exact hg _ (by simp) h
    · rintro (h | h | h)
      · have := Hs4.out; omega
      · omega
      · exact hg _ (by simp) h
    · rintro (h | h | h)
      · omega
      · have := Hs4.out; omega
      · exact hg _ (by simp) h
    · rcases e with h | h | h
      · have := Hs4.out; omega
      · omega
      · exact Hgo.out z h
  case hend =>
    rintro e W6 ⟨⟨v, rfl⟩, A, B, hJ⟩
    refine ⟨⟨v, rfl⟩, .ready, none, by simp, hJ.lp, ?_⟩
    obtain ⟨uo, hou, hoo, hon⟩ := hJ.o
    obtain ⟨X, hX⟩ : ∃ X, X = sharedL a b := ⟨_, rfl⟩
    rw [← hX] at hoo HR
    clear hX
    obtain ⟨po, co, rfl⟩ := Own.slice hoo
    have hlt := heap_lt hJ.lp
    have h7 : Only (· = W4.heap.size + 1) W6 (W6.putObj (W4.heap.size + 1) (.loop (RL .exhausted none))) := Only.putObj (A := (· = W4.heap.size + 1)) _ (b := W4.heap.size + 1) rfl _
    show Exit.inBlock 0 _ Exit.normal _ (W6.putObj (W4.heap.size + 1) (.loop (RL .exhausted none)))
    generalize W6.putObj (W4.heap.size + 1) (.loop (RL .exhausted none)) = W7 at *
    have hs7 := h7.size
    have hou7 := h7.blk hou (by omega)
    have hoo7 := Own.only hoo h7 (fun k e => by rw [e]; exact hon _ (by simp))
    have hD7 : W7.heap[W4.heap.size]? = some (.deferred (some [])) := (h7.block _ (by omega) (by omega)).trans hJ.df
    have h8 : Only (· = W4.heap.size) W7 (W7.putObj W4.heap.size (.deferred none)) := Only.putObj (A := (· = W4.heap.size)) W7 (b := W4.heap.size) rfl (.deferred none)
    have hB8 : Below w.heap.size w (W7.putObj W4.heap.size (.deferred none)) := hJ.b.trans ((h7.below (B := w.heap.size) (by have := hJ.b.size; omega) (fun k e => by omega)).trans (h8.below (B := w.heap.size) (by have := hJ.b.size; omega) (fun k e => by omega)))
    have hoo8 := Own.only hoo7 h8 (fun k e => by rw [e]; exact hon _ (by simp))
    have hr := HR.out _ _ hB8 hoo8
    have HD7 := Lib.hid hD7
    have d0 := hou7.cells.c1
    have Hr := Lib.hid hr
    clear hJ hou hoo hon h7 hs7 hou7 hoo7 hD7 h8 hB8 hoo8 hr hB5 hlD hlL hs5 hJ0 hB05 hB15 hB4 hka4 hkb hob hs4 hkal hkbl hlt
    go_wp2_with fail
    refine ⟨by simp, .inl ⟨_, _, rfl, run_takeDeferred HD7.out, ?_⟩⟩
    exact ⟨_, results_tmp (t := 4) rfl _ _ _, fin Hr.out rfl⟩
end Go.Proofs.Ytkcpanaojehgiaa
