/- schema.Builtin, schema.of: the attributes of facts that may be. -/
import Derived.Test.YtkcpanaojehgiaaSchQ
namespace Go.Proofs.Ytkcpanaojehgiaa
open Go.RowKit Go.Shelf
set_option linter.unusedVariables false
set_option linter.unusedSimpArgs false
attribute [local go_sem] Oper.semAt_some

abbrev OwnA := Own Attr.enc 24 7
theorem infoA : (Try.prog.info? 24).map (fun i => (i.zero, i.size, i.bytes)) = some (some (.agg #[.int .i64 0, .string ⟨#[]⟩, .int .i64 0, .bool false, .int .i64 0, .bool false, .bool false]), 7, 56) := by kernel_rfl
theorem OwnA.attrs {lo : Nat} {w : World} {v : Value} {xs : List Attr} (h : OwnA lo w v xs) : Attrs lo w.heap.size w v xs := Sl.ofOwn (fun _ => rfl) h
theorem appA1 {w : World} {lo : Nat} {v : Value} {xs : List Attr} (h : OwnA lo w v xs) (x : Attr) {n : Nat} (hn : n = w.heap.size) (hb : xs.length ≤ 2000000000007) (hlo : lo ≤ w.heap.size) :
    ∃ v' w', (Builtin.append_ #[22, 22] 22 #[v, .slice (some ⟨n, 0, none⟩) 1 1]).run Try.prog (w.alloc (.cells x.enc.toArray 24)) = .ok v' w' ∧ OwnA lo w' v' (xs ++ [x]) ∧ Appended w v w' v' := by
  subst hn
  have hB := alloc_below w (.cells x.enc.toArray 24)
  obtain ⟨i0, hi, hz0, hz1, hz2⟩ := info_parts infoA
  have hc := CellsAt.newAt w x.enc 24 rfl
  have hs : Src Try.prog 7 22 (.slice (some ⟨w.heap.size, 0, none⟩) 1 1) [x].length ([x].flatMap Attr.enc) (w.alloc (.cells x.enc.toArray 24)) :=
    Src.ofSlice _ Try.underlying22 _ _ _ _ (by simp [Attr.enc]) (fun j u hu => by rw [Addr.add_lit]; exact hc j u (by simpa using hu)) (fun u hu => by
      simp only [List.flatMap_cons, List.flatMap_nil, List.append_nil, Attr.enc, List.mem_cons, List.not_mem_nil, or_false] at hu
      rcases hu with rfl | rfl | rfl | rfl | rfl | rfl | rfl <;> rfl)
  obtain ⟨v', w', hr, ho, ha⟩ := (Own.kept h hB).app _ _ _ i0 _ 56 Try.underlying22 hi hz0 hz1 hz2 rfl hs (by simp only [List.length_cons, List.length_nil]; omega) (by omega) (Nat.le_trans hlo hB.size)
  exact ⟨v', w', hr, ho, (Appended.step v hB).trans ha⟩
theorem Own.slice {α : Type} {enc : α → List Value} {e : TypeId} {size lo : Nat} {w : World} {v : Value} {xs : List α} (h : Own enc e size lo w v xs) : ∃ p cap, v = .slice p xs.length cap := by
  rcases h.2 with ⟨e1, e2⟩ | ⟨g, cap, cur, e1, -⟩
  · exact ⟨none, 0, by rw [e1, e2]⟩
  · exact ⟨_, cap, e1⟩
theorem Own.same {α : Type} {enc : α → List Value} {e : TypeId} {size lo : Nat} {w w' : World} {v : Value} {xs : List α} (h : Own enc e size lo w v xs) (hg : ∀ g, v.ownBlock = some g → w'.heap[g]? = w.heap[g]?) : Own enc e size lo w' v xs :=
  ⟨h.1, h.2.imp id fun ⟨g, cap, cur, e1, h1, h2, h3⟩ => ⟨g, cap, cur, e1, h1, (hg g (by rw [e1]; rfl)).trans h2, h3⟩⟩
theorem Own.only {α : Type} {enc : α → List Value} {e : TypeId} {size lo : Nat} {A : Nat → Prop} {w w' : World} {v : Value} {xs : List α} (h : Own enc e size lo w v xs) (ho : Only A w w') (hA : ∀ k, A k → v.ownBlock ≠ some k) : Own enc e size lo w' v xs :=
  Own.same h (fun g e => ho.block g (Own.lt h g e).2 (fun e2 => hA g e2 e))
theorem size_builtin : (builtinL.flatMap Attr.enc).length = 49 := by decide
set_option maxRecDepth 100000 in
set_option maxHeartbeats 2000000 in
theorem Builtin_any (w : World) (R : Ending → World → Prop) (hR : ∀ w' v', Below w.heap.size w w' → OwnA w.heap.size w' v' builtinL → R (.returned v') w') : Calls Try.prog 15 #[] w R := by
  have ho : OwnA w.heap.size (w.alloc (.cells (builtinL.flatMap Attr.enc).toArray 24)) (.slice (some ⟨w.heap.size, 0, none⟩) 7 7) builtinL :=
    World.ownsRow_lit (base := w.heap.size) (e := 24) (size := 7) w (builtinL.flatMap Attr.enc).toArray 7 (Nat.le_refl _) (by simp [maxLen]) (by rw [List.size_toArray, size_builtin])
  have hr := hR _ _ (alloc_below w _) ho
  clear hR ho
  go_enter Try.func15, Try.ntmps15
  go_wp2_with fail
  first | exact hr | exact fin hr rfl
theorem entities_any (v : Value) (ao : Option Addr) (n c : Nat) (hv : v = .slice ao n c) (w : World) (R : Ending → World → Prop)
    (hR : R (.returned (.func (.func 69) #[] #[.pointer (some ⟨w.heap.size, 0, none⟩)])) (w.alloc (.cells #[v] 29))) : Calls Try.prog 58 #[v] w R := by
  subst hv
  go_enter Try.func58, Try.ntmps58
  go_wp2_with fail
  first | exact hR | exact fin hR rfl
/-- What holds between the rounds of 'of'. -/
structure OfJ (lo hi ob kb L D : Nat) (w : World) (l : List Ft) (rc : Obj) (p q : Nat) (W : World) : Prop where
  b : Below w.heap.size w W
  k : ∃ v, Blk W kb [v] 29 ∧ Fts lo hi W v (l.drop p)
  st : Start l q
  o : ∃ v, Blk W ob [v] 22 ∧ OwnA w.heap.size W v (builtinL ++ ofTo l q) ∧ ∀ x ∈ [ob, kb, L, D], v.ownBlock ≠ some x
  lp : W.heap[L]? = some rc
  df : W.heap[D]? = some (.deferred (some []))
theorem OfJ.on {lo hi ob kb L D p q q' : Nat} {w W W' : World} {l : List Ft} {rc : Obj} {A : Nat → Prop} (h : OfJ lo hi ob kb L D w l rc p q W) (hO : Only A W W') (hkb : ¬ A kb) (hD : ¬ A D) (hA : ∀ z, A z → w.heap.size ≤ z) (hhi : hi ≤ w.heap.size)
    (hst : Start l q') (hl : W'.heap[L]? = some rc) (ho : ∃ v, Blk W' ob [v] 22 ∧ OwnA w.heap.size W' v (builtinL ++ ofTo l q') ∧ ∀ x ∈ [ob, kb, L, D], v.ownBlock ≠ some x) : OfJ lo hi ob kb L D w l rc p q' W' := by
  obtain ⟨v, h1, h2⟩ := h.k
  have hb := h.b.size
  exact ⟨h.b.trans (hO.below hb hA), ⟨v, hO.blk h1 hkb, Sl.agree h2 ftE_loc (fun z z1 z2 => hO.block z (by omega) (fun e => by have := hA z e; omega))⟩, hst, ho, hl,
    (hO.block _ (by obtain ⟨hh, -⟩ := Array.getElem?_eq_some_iff.1 h.df; exact hh) hD).trans h.df⟩
set_option maxRecDepth 100000 in
set_option maxHeartbeats 8000000 in
theorem of_any (lo hi : Nat) (l : List Ft) (v : Value) (w : World) (hv : Fts lo hi w v l) (hhi : hi ≤ w.heap.size) (hlen : l.length ≤ 2000000000000) (hok : factsB l = true) (R : Ending → World → Prop)
    (hR : ∀ w' v', Below w.heap.size w w' → OwnA w.heap.size w' v' (attrsOf l) → R (.returned v') w') : Calls Try.prog 33 #[v] w R := by
  have HR := Lib.hid hR
  have Hv := Lib.hid hv
  have Hok := Lib.hid hok
  obtain ⟨av, cv, rfl, -, -, -, -⟩ := hv.form
  clear hR hv hok
  refine (callsIn_wide (n := 3)).1 (callsIn_of_wp_marks Try.func33 rfl trivial ?_ rfl)
  refine wpIn_wide.2 ?_
  simp only [Try.ntmps33, List.size_toArray, List.length_cons, Nat.reduceAdd, Nat.reduceSub, Array.replicate_succ, Array.replicate_zero, List.push_toArray, List.append_toArray, List.nil_append, List.cons_append, List.length_nil]
  go_wp2_with fail
  refine Builtin_any w _ (fun w1 vB hB1 ho1 => ?_)
  have hsB := (Own.lt ho1)
  obtain ⟨gB, cB, rfl, -, -, -, -, -, -⟩ := Own.form ho1 (by simp [builtinL])
  have hB2 := alloc_below w1 (.cells #[.slice (some ⟨gB, 0, none⟩) builtinL.length cB] 22)
  have hob := Blk.new w1 [.slice (some ⟨gB, 0, none⟩) builtinL.length cB] 22 rfl
  have HB1 := Lib.hid hB1
  have Ho1 := Lib.hid ho1
  have hz1 := hB1.size
  clear hB1 ho1
  go_upto_region 2 with fail
  generalize w1.alloc (.cells #[.slice (some ⟨gB, 0, none⟩) builtinL.length cB] 22) = w2 at *
  have hz2 := hB2.size
  go_wp2_with fail
  refine entities_any _ av l.length cv rfl w2 _ ?_
  have hB3 := alloc_below w2 (.cells #[.slice av l.length cv] 29)
  have hkb := Blk.new w2 [.slice av l.length cv] 29 rfl
  go_wp2_with fail
  have hs4 : (w2.alloc (.cells #[.slice av l.length cv] 29)).heap.size = w2.heap.size + 1 := by simp
  generalize w2.alloc (.cells #[.slice av l.length cv] 29) = W4 at *
  refine wp_rangeFuncR 2 (gf := 69) rfl (enters_of Try.func69 (by kernel_rfl) rfl) (fun fn RL hRL => ?_)
  have HRL := Lib.hid hRL
  clear hRL
  have hB5 : Below W4.heap.size W4 ((W4.alloc (.deferred (some []))).alloc (.loop (RL .ready none))) := ((Below.refl _ _).alloc (Nat.le_refl _) _).alloc (by simp) _
  have hlD : ((W4.alloc (.deferred (some []))).alloc (.loop (RL .ready none))).heap[W4.heap.size]? = some (.deferred (some [])) := (Below.heap_alloc _ _ _ (by simp)).trans (World.alloc_heap_new W4 _)
  have hlL : ((W4.alloc (.deferred (some []))).alloc (.loop (RL .ready none))).heap[W4.heap.size + 1]? = some (.loop (RL .ready none)) := by
    have := World.alloc_heap_new (W4.alloc (.deferred (some []))) (.loop (RL .ready none))
    rwa [World.size_alloc] at this
  have hs5 : ((W4.alloc (.deferred (some []))).alloc (.loop (RL .ready none))).heap.size = W4.heap.size + 2 := by simp
  generalize (W4.alloc (.deferred (some []))).alloc (.loop (RL .ready none)) = W5 at *
  have hB25 := hB2.trans ((hB3.trans (hB5.mono (by omega))).mono hz2)
  have hB05 : Below w.heap.size w W5 := HB1.out.trans (hB25.mono hz1)
  have hobl := hob.lt
  have hkbl := hkb.lt
  have hJ0 : OfJ lo hi w1.heap.size w2.heap.size (W4.heap.size + 1) W4.heap.size w l (.loop (RL .ready none)) 0 0 W5 := {
    b := hB05
    k := ⟨_, hkb.below hB5 hkbl, by rw [List.drop_zero]; exact Sl.below Hv.out ftE_loc hB05 hhi⟩
    st := fun h => absurd h (Nat.lt_irrefl _)
    o := ⟨_, hob.below (hB3.trans (hB5.mono (by omega))) hobl, by
      rw [show ofTo l 0 = [] from rfl, List.append_nil]
      exact Own.kept Ho1.out hB25, fun x hx e => by
      have := (hsB x e).2
      simp only [List.mem_cons, List.not_mem_nil, or_false] at hx
      omega⟩
    lp := hlL
    df := hlD }
  refine (ent1_any 1 (W4.heap.size + 1) w2.heap.size lo hi l (OfJ lo hi w1.heap.size w2.heap.size (W4.heap.size + 1) W4.heap.size w l (.loop (RL .ready none))) (by omega) ?hc ?hdrew ?hY ?hst W5 hJ0).mono ?hend
  case hc =>
    intro p q W h
    obtain ⟨v, h1, h2⟩ := h.k
    exact ⟨v, h1.cells.c1, h1.free 0, h2⟩
  case hdrew =>
    intro p q W h
    obtain ⟨v, h1, h2⟩ := h.k
    obtain ⟨u, h3, h4, h5⟩ := h.o
    exact ⟨h.b.drew, ⟨v, h1, Sl.agree h2 ftE_loc (fun _ _ _ => rfl)⟩, h.st, ⟨u, h3, Own.same h4 (fun _ _ => rfl), h5⟩, h.lp, h.df⟩
  case hst =>
    intro p q W v h hf
    obtain ⟨u, h3, h4, h5⟩ := h.o
    obtain ⟨v0, h1, h2⟩ := h.k
    have hO : Only (· = w2.heap.size) W (W.setCell ⟨w2.heap.size, 0, none⟩ v) := Only.setCell (A := (· = w2.heap.size)) W (p := ⟨w2.heap.size, 0, none⟩) rfl _
    exact ⟨h.b.setCell (p := ⟨w2.heap.size, 0, none⟩) (by show w.heap.size ≤ w2.heap.size; omega) _, ⟨v, h1.set 0 v, Sl.agree hf ftE_loc (fun k h1 h2 => hO.block k (by have := h.b.size; omega) (by omega))⟩, h.st,
      ⟨u, hO.blk h3 (by omega), Own.only h4 hO (fun k e => by rw [e]; exact h5 _ (by simp)), h5⟩, (hO.block _ (by obtain ⟨hh, -⟩ := Array.getElem?_eq_some_iff.1 h.lp; exact hh) (by omega)).trans h.lp, (hO.block _ (by obtain ⟨hh, -⟩ := Array.getElem?_eq_some_iff.1 h.df; exact hh) (by omega)).trans h.df⟩
  case hY =>
    intro k n W v1 hJ hG hf
    have hln : ((l.drop k).take n).length = n := by rw [List.length_take, List.length_drop]; have := hG.le; omega
    have hn := hG.pos
    have hle := hG.le
    have hob1 := hJ.b.size
    obtain ⟨uo, hou, hoo, hon⟩ := hJ.o
    obtain ⟨X, hX⟩ : ∃ X, X = builtinL ++ ofTo l k := ⟨_, rfl⟩
    have hXn : X ≠ [] := by rw [hX]; simp [builtinL]
    rw [← hX] at hoo
    have HX := Lib.hid hX
    obtain ⟨go, co, rfl, -, -, -, -, -, -⟩ := Own.form hoo hXn
    clear hX hXn
    obtain ⟨av1, cv1, e1, -, -, -, -⟩ := hf.form
    rw [hln] at e1
    subst e1
    obtain ⟨hlL1, hlL2⟩ := Array.getElem?_eq_some_iff.1 hJ.lp
    clear hlL2
    have HJ := Lib.hid hJ
    have HG := Lib.hid hG
    have Hf := Lib.hid hf
    have Hou := Lib.hid hou
    have Hoo := Lib.hid hoo
    have Hon := Lib.hid hon
    have Hln := Lib.hid hln
    have Hs4 := Lib.hid hs4
    clear hs5 hlD hlL hB5 hJ0 hB05 hB25 hB3 hB2 hsB hkb hob hJ hG hf hou hoo hon hln hs4
    generalize hL : W4.heap.size + 1 = L at *
    refine yieldAt_recR HRL.out HJ.out.lp rfl ?_
    gi_wp2
    refine ⟨HJ.out.lp, ?_⟩
    have ho3 : Only (· = L) W (W.putObj L (.loop (RL .busy none))) := Only.putObj (A := (· = L)) W (b := L) rfl _
    have hl3 : (W.putObj L (.loop (RL .busy none))).heap[L]? = some (.loop (RL .busy none)) := World.putObj_heap_same (by omega)
    have hs3 : (W.putObj L (.loop (RL .busy none))).heap.size = W.heap.size := World.putObj_size
    generalize W.putObj L (.loop (RL .busy none)) = W3 at *
    have Hf3 := Lib.hid (Sl.agree Hf.out ftE_loc (fun z z1 z2 => ho3.block z (by omega) (by have := Hs4.out; omega)) : Fts lo hi W3 _ _)
    have Ho3 := Lib.hid ho3
    have Hl3 := Lib.hid hl3
    clear ho3 hl3
    gi_wp2_with fail
    refine ⟨trivial, CallsIn.inRound _ (callsIn_wide.2 ?_)⟩
    have Hf4 := Hf3.out
    refine made_any lo hi ((l.drop k).take n) _ W3 Hf3.out (by rw [Hln.out]; exact hn) (by omega) (by rw [Hln.out]; omega) _ (fun W6 hB6 => ?_)
    obtain ⟨mk, emk⟩ : ∃ mk, mk = madeS (((l.drop k).take n).getD 0 default).e ((l.drop k).take n) := ⟨_, rfl⟩
    have hto : ofTo l (k + n) = ofTo l k ++ (if mk.ok then some mk.a else none).toList := by
      have e0 : ((l.drop k).take n).getD 0 default = l.getD k default := by
        rw [getD_at _ _ 0 (by rw [Hln.out]; exact hn), List.getElem_take, List.getElem_drop, getD_at l _ k (by omega)]
        rfl
      rw [HG.out.to Hok.out HJ.out.st, made_eq, emk, e0]
    rw [← emk]
    have Hto := Lib.hid hto
    have hz6 := hB6.size
    have hB7 := hB6.trans ((alloc_below W6 (.cells mk.a.enc.toArray 24)).mono hz6)
    have hb7 := Blk.new W6 mk.a.enc 24 rfl
    clear Hf4 emk hto
    obtain ⟨⟨aid, aname, atype, amany, aunique, apart, aindex⟩, nn, nt⟩ := mk
    have hou3 := Ho3.out.blk Hou.out (by have := Hs4.out; omega)
    have hoo3 := Own.only Hoo.out Ho3.out (fun z e => by rw [e]; exact Hon.out L (by simp))
    have hlt3 := hou3.lt
    have hou7 := Lib.hid (hou3.below hB7 hlt3)
    have hoo7 := Lib.hid (Own.kept hoo3 hB7)
    have HB7 := Lib.hid hB7
    have Hl7 := Lib.hid ((hB7.block L (by omega)).trans Hl3.out)
    have HO7 : Hid (Only (· = L) W (W6.alloc (.cells #[.int .i64 aid, .string ⟨aname.toArray⟩, .int .i64 atype, .bool amany, .int .i64 aunique, .bool apart, .bool aindex] 24))) := Lib.hid (Ho3.out.trans (Below.only hB7))
    have hs7 : (W6.alloc (.cells #[.int .i64 aid, .string ⟨aname.toArray⟩, .int .i64 atype, .bool amany, .int .i64 aunique, .bool apart, .bool aindex] 24)).heap.size = W6.heap.size + 1 := by simp
    have c7 : (W6.alloc (.cells #[.int .i64 aid, .string ⟨aname.toArray⟩, .int .i64 atype, .bool amany, .int .i64 aunique, .bool apart, .bool aindex] 24)).cell? ⟨w1.heap.size, 0, none⟩ = some (.slice (some ⟨go, 0, none⟩) X.length co) := hou7.out.cells.c1
    cases hmk : Mk.ok ⟨⟨aid, aname, atype, amany, aunique, apart, aindex⟩, nn, nt⟩
    · rw [hmk, if_neg (by decide)] at Hto
      have Hto2 : Hid (ofTo l (k + n) = ofTo l k) := Lib.hid (by rw [Hto.out]; simp)
      clear hmk Hto
      dsimp only
      gi_wp2_with fail
      refine roundPost_normalR HRL.out Hl7.out ?_
      have h8 : Only (· = L) (W6.alloc (.cells #[.int .i64 aid, .string ⟨aname.toArray⟩, .int .i64 atype, .bool amany, .int .i64 aunique, .bool apart, .bool aindex] 24)) ((W6.alloc (.cells #[.int .i64 aid, .string ⟨aname.toArray⟩, .int .i64 atype, .bool amany, .int .i64 aunique, .bool apart, .bool aindex] 24)).putObj L (.loop (RL .ready none))) := Only.putObj (A := (· = L)) _ (b := L) rfl _
      have hl8 : ((W6.alloc (.cells #[.int .i64 aid, .string ⟨aname.toArray⟩, .int .i64 atype, .bool amany, .int .i64 aunique, .bool apart, .bool aindex] 24)).putObj L (.loop (RL .ready none))).heap[L]? = some (.loop (RL .ready none)) := World.putObj_heap_same (by rw [hs7]; omega)
      refine ⟨rfl, HJ.out.on (HO7.out.trans h8) (by have := Hs4.out; omega) (by have := Hs4.out; omega) (fun z e => by have := Hs4.out; omega) hhi HG.out.start hl8 ⟨_, h8.blk hou7.out (by have := Hs4.out; omega), ?_, Hon.out⟩⟩
      rw [Hto2.out, ← HX.out]
      exact Own.only hoo7.out h8 (fun z e => by rw [e]; exact Hon.out L (by simp))
    · rw [hmk, if_pos rfl] at Hto
      have Hto2 : Hid (ofTo l (k + n) = ofTo l k ++ [⟨aid, aname, atype, amany, aunique, apart, aindex⟩]) := Lib.hid (by rw [Hto.out]; simp)
      have hl8 := ofTo_len l k
      have h9 : X.length ≤ 2000000000007 := by rw [HX.out, List.length_append]; simp only [builtinL, List.length_cons, List.length_nil]; omega
      have H9 := Lib.hid h9
      clear hmk Hto h9 hl8
      dsimp only
      gi_wp2_with (gi_at_builtin; refine AtApp.of ?_)
      obtain ⟨v8, W8, hr8, ho8, ha8⟩ := appA1 (w := W6.alloc (.cells #[.int .i64 aid, .string ⟨aname.toArray⟩, .int .i64 atype, .bool amany, .int .i64 aunique, .bool apart, .bool aindex] 24)) hoo7.out ⟨aid, aname, atype, amany, aunique, apart, aindex⟩ (n := W6.heap.size + 1) hs7.symm H9.out (by rw [hs7]; omega)
      refine AtApp.goIn hr8 rfl rfl rfl rfl ?_
      obtain ⟨g8, cap8, rfl, -, -, -, -, -, -⟩ := Own.form ho8 (by simp)
      have hl8n : (X ++ [(⟨aid, aname, atype, amany, aunique, apart, aindex⟩ : Attr)]).length = X.length + 1 := by simp
      rw [hl8n] at ho8 ha8 ⊢
      have hon8 : ∀ x ∈ [w1.heap.size, w2.heap.size, L, W4.heap.size], (Value.slice (some ⟨g8, 0, none⟩) (X.length + 1) cap8).ownBlock ≠ some x := fun x hx => by
        refine ha8.apart ?_ (Hon.out x hx)
        rw [hs7]
        simp only [List.mem_cons, List.not_mem_nil, or_false] at hx
        have := Hs4.out
        omega
      have hO8 : Only (fun z => Value.ownBlock (.slice (some ⟨go, 0, none⟩) X.length co) = some z) (W6.alloc (.cells #[.int .i64 aid, .string ⟨aname.toArray⟩, .int .i64 atype, .bool amany, .int .i64 aunique, .bool apart, .bool aindex] 24)) W8 := ⟨ha8.grown.os, ha8.grown.tape, ha8.grown.output, ha8.grown.size, fun k hk hne => ha8.grown.block k hk (fun e => hne e.symm)⟩
      have hs8 := hO8.size
      rw [hs7] at hs8
      have hou8 := hO8.blk hou7.out (Hon.out _ (by simp))
      have hl8 := (hO8.block L (by rw [hs7]; omega) (Hon.out L (by simp))).trans Hl7.out
      have hgo : w.heap.size ≤ go := (Own.lt hoo7.out go rfl).1
      have c8 := hou8.cells.c1
      have f8 := hou8.free 0
      have Hou8 := Lib.hid hou8
      have Ho8 := Lib.hid ho8
      have Hl8 := Lib.hid hl8
      have HO8 := Lib.hid hO8
      have Hon8 := Lib.hid hon8
      clear hr8 ho8 ha8 hou8 hl8 hO8 hon8 c7
      gi_wp2_with fail
      have h9 : Only (· = w1.heap.size) W8 (W8.setCell ⟨w1.heap.size, 0, none⟩ (.slice (some ⟨g8, 0, none⟩) (X.length + 1) cap8)) := Only.setCell (A := (· = w1.heap.size)) W8 (p := ⟨w1.heap.size, 0, none⟩) rfl _
      have hs9 := h9.size
      have hl9 := (h9.block L (by omega) (by have := Hs4.out; omega)).trans Hl8.out
      refine roundPost_normalR HRL.out hl9 ?_
      have hou9 := Hou8.out.set 0 (.slice (some ⟨g8, 0, none⟩) (X.length + 1) cap8)
      have hoo9 := Own.only Ho8.out h9 (fun z e => by rw [e]; exact Hon8.out _ (by simp))
      have h10 : Only (· = L) (W8.setCell ⟨w1.heap.size, 0, none⟩ (.slice (some ⟨g8, 0, none⟩) (X.length + 1) cap8)) ((W8.setCell ⟨w1.heap.size, 0, none⟩ (.slice (some ⟨g8, 0, none⟩) (X.length + 1) cap8)).putObj L (.loop (RL .ready none))) := Only.putObj (A := (· = L)) _ (b := L) rfl _
      have hl10 : ((W8.setCell ⟨w1.heap.size, 0, none⟩ (.slice (some ⟨g8, 0, none⟩) (X.length + 1) cap8)).putObj L (.loop (RL .ready none))).heap[L]? = some (.loop (RL .ready none)) := World.putObj_heap_same (by omega)
      have hg2 : go ≠ w2.heap.size := fun e => Hon.out w2.heap.size (by simp) (by rw [← e]; rfl)
      have hg4 : go ≠ W4.heap.size := fun e => Hon.out W4.heap.size (by simp) (by rw [← e]; rfl)
      have hOA : Only (fun z => z = L ∨ z = w1.heap.size ∨ z = go) W ((W8.setCell ⟨w1.heap.size, 0, none⟩ (.slice (some ⟨g8, 0, none⟩) (X.length + 1) cap8)).putObj L (.loop (RL .ready none))) :=
        (HO7.out.mono (fun _ _ e => .inl e)).trans ((HO8.out.mono (fun z _ e => by injection e with e; exact .inr (.inr e.symm))).trans ((h9.mono (fun _ _ e => .inr (.inl e))).trans (h10.mono (fun _ _ e => .inl e))))
      refine ⟨rfl, HJ.out.on hOA (by have := Hs4.out; omega) (by have := Hs4.out; omega) (fun z e => by have := Hs4.out; omega) hhi HG.out.start hl10 ⟨_, h10.blk hou9 (by have := Hs4.out; omega), ?_, Hon8.out⟩⟩
      rw [Hto2.out, ← List.append_assoc, ← HX.out]
      exact Own.only hoo9 h10 (fun z e => by rw [e]; exact Hon8.out L (by simp))
  case hend =>
    rintro e W6 ⟨⟨v, rfl⟩, hJ⟩
    refine ⟨⟨v, rfl⟩, .ready, none, by simp, hJ.lp, ?_⟩
    obtain ⟨uo, hou, hoo, hon⟩ := hJ.o
    obtain ⟨go, co, rfl, -, -, -, -, -, -⟩ := Own.form hoo (by simp [builtinL])
    obtain ⟨hlt, -⟩ := Array.getElem?_eq_some_iff.1 hJ.lp
    have h7 : Only (· = W4.heap.size + 1) W6 (W6.putObj (W4.heap.size + 1) (.loop (RL .exhausted none))) := Only.putObj (A := (· = W4.heap.size + 1)) _ (b := W4.heap.size + 1) rfl _
    show Exit.inBlock 0 _ Exit.normal _ (W6.putObj (W4.heap.size + 1) (.loop (RL .exhausted none)))
    generalize W6.putObj (W4.heap.size + 1) (.loop (RL .exhausted none)) = W7 at *
    have hs7 := h7.size
    have hou7 := h7.blk hou (by omega)
    have hoo7 := Own.only hoo h7 (fun k e => by rw [e]; exact hon _ (by simp))
    have hD7 : W7.heap[W4.heap.size]? = some (.deferred (some [])) := (h7.block _ (by omega) (by omega)).trans hJ.df
    have h8 : Only (· = W4.heap.size) W7 (W7.putObj W4.heap.size (.deferred none)) := Only.putObj (A := (· = W4.heap.size)) W7 (b := W4.heap.size) rfl (.deferred none)
    have hB8 : Below w.heap.size w (W7.putObj W4.heap.size (.deferred none)) := hJ.b.trans ((h7.below (B := w.heap.size) (by have := hJ.b.size; omega) (fun k e => by omega)).trans (h8.below (B := w.heap.size) (by have := hJ.b.size; omega) (fun k e => by omega)))
    have hoo8 := Own.only hoo7 h8 (fun k e => by rw [e]; exact hon _ (by simp))
    have hr := HR.out _ _ hB8 hoo8
    have HD7 := Lib.hid hD7
    have d0 := hou7.cells.c1
    have Hr := Lib.hid hr
    clear hJ hou hoo hon h7 hs7 hou7 hoo7 hD7 h8 hB8 hoo8 hr hB5 hlD hlL hs5 hJ0 hB05 hB25 hB3 hB2 hsB hkb hob hs4 hlt
    go_wp2_with fail
    refine ⟨by simp, .inl ⟨_, _, rfl, run_takeDeferred HD7.out, ?_⟩⟩
    exact ⟨_, results_tmp (t := 2) rfl _ _ _, fin Hr.out (by rw [List.length_append]; rfl)⟩
end Go.Proofs.Ytkcpanaojehgiaa
