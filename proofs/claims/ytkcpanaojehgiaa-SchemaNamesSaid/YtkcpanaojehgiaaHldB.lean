/- Does any fact ..?: slices.ContainsFunc over facts; attributes by number, in a map. -/
import Derived.Test.YtkcpanaojehgiaaHldA
namespace Go.Proofs.Ytkcpanaojehgiaa
open Go.RowKit Go.ChangeMaps Go.WideMaps Go.Maps
set_option linter.unusedVariables false
set_option linter.unusedSimpArgs false

set_option maxRecDepth 100000 in
set_option maxHeartbeats 4000000 in
theorem IndexFunc_fact (lo hi : Nat) (v : Value) (xs : List Ft) (f : FuncId) (capt : Array Value) (p : Ft → Bool) (w : World) (hv : Fts lo hi w v xs) (hhi : hi ≤ w.heap.size)
    (he : ∀ args w, (callFunc f args).run Try.prog w = .ok (.enter f args) w)
    (hp : ∀ x ∈ xs, ∀ sv w' R, Below w.heap.size w w' → Spans lo hi w' sv x.sp → (∀ w'', Below w'.heap.size w' w'' → R (.returned (.bool (p x))) w'') →
      Calls Try.prog f (#[.agg #[.int .i64 x.e, .int .i64 x.a, .int .i64 x.v.kind, .int .i64 x.v.n, .string ⟨x.v.s.toArray⟩, sv]] ++ capt) w' R)
    (R : Ending → World → Prop) (hR : ∀ o w', o = xs.findIdx? p → Below w.heap.size w w' → R (.returned (.int .i64 (oidx o))) w') :
    Calls Try.prog 64 #[v, .func (.func f) #[] capt] w R := by
  have Hv := Lib.hid hv
  have HR := Lib.hid hR
  have Hp := Lib.hid hp
  obtain ⟨ao, cap, rfl, hl1, hl2, -, -⟩ := hv.form
  clear hv hp hR
  go_enter Try.func64, Try.ntmps64
  go_wp2_with fail
  go_loopw [5, 8] (fun t5 t8 wr => ∃ k : Nat, k ≤ xs.length ∧ t8 = .int .i64 k ∧ (∀ i (h : i < k) (h' : i < xs.length), p xs[i] = false) ∧ Below w.heap.size w wr) (fun _ t8 _ => xs.length - (intOf t8).toNat)
  case atStart => exact ⟨0, Nat.zero_le _, rfl, by intro i h; omega, Below.refl _ _⟩
  case round =>
    obtain ⟨k, hk, rfl, hno, hB⟩ := hrel
    have Hno := Lib.hid hno
    have kk0 : (0 : Int) ≤ (k : Int) := by omega
    have HB := Lib.hid hB
    have hz := hB.size
    clear hno
    by_cases hlt : k < xs.length
    · obtain ⟨ao', cap', e', -, -, -, hc⟩ := (Sl.below Hv.out ftE_loc hB hhi).form
      injection e' with e1 e2 e3
      subst e1 e3
      obtain ⟨b, off, rfl, hb1, hb2, hcc⟩ := hc k hlt
      obtain ⟨cs, _, hcs, sv, rfl, hsv⟩ := hcc k hlt
      obtain ⟨h0, h1, h2, h3, h4, h5⟩ := hcs.f6
      have kkl : (k : Int) < (xs.length : Int) := by omega
      have Hm : Hid (xs[k] ∈ xs) := Lib.hid (List.getElem_mem hlt)
      have Hsv := Lib.hid hsv
      obtain ⟨asp, csp, rfl, -, -, -, -⟩ := hsv.form
      clear hcc hcs hc hsv hB
      generalize hx : xs[k] = x at *
      have Hx := Lib.hid hx
      clear hx
      go_wp2_with fail
      refine Hp.out x Hm.out _ _ _ HB.out Hsv.out ?_
      intro w1 hB1
      have HB2 := Lib.hid (HB.out.trans (hB1.mono hz))
      clear hB1
      cases hpx : p x
      · go_wp2_with fail
        go_roundw
        case rel =>
          refine ⟨k + 1, by omega, by go_num, ?_, HB2.out⟩
          intro i h h'
          by_cases e : i = k
          · subst e; rw [Hx.out]; exact hpx
          · exact Hno.out i (by omega) h'
        case measure => simp [intOf]; omega
      · have hr := HR.out (some k) _ (by
          symm
          rw [List.findIdx?_eq_some_iff_getElem]
          exact ⟨hlt, by rw [Hx.out]; exact hpx, fun j hj => by simpa using Hno.out j hj (by omega)⟩) HB2.out
        simp only [oidx] at hr
        go_wp2_with fail
        first | exact hr | exact fin hr rfl
    · have hr := HR.out none _ (by
        symm
        rw [List.findIdx?_eq_none_iff]
        intro x hx
        obtain ⟨i, hi, rfl⟩ := List.getElem_of_mem hx
        exact Hno.out i (by omega) hi) hB
      simp only [oidx] at hr
      clear hB
      go_wp2_with fail
      first | exact hr | exact fin hr rfl
set_option maxRecDepth 100000 in
set_option maxHeartbeats 2000000 in
theorem ContainsFunc_fact (lo hi : Nat) (v : Value) (xs : List Ft) (f : FuncId) (capt : Array Value) (p : Ft → Bool) (w : World) (hv : Fts lo hi w v xs) (hhi : hi ≤ w.heap.size)
    (he : ∀ args w, (callFunc f args).run Try.prog w = .ok (.enter f args) w)
    (hp : ∀ x ∈ xs, ∀ sv w' R, Below w.heap.size w w' → Spans lo hi w' sv x.sp → (∀ w'', Below w'.heap.size w' w'' → R (.returned (.bool (p x))) w'') →
      Calls Try.prog f (#[.agg #[.int .i64 x.e, .int .i64 x.a, .int .i64 x.v.kind, .int .i64 x.v.n, .string ⟨x.v.s.toArray⟩, sv]] ++ capt) w' R)
    (R : Ending → World → Prop) (hR : ∀ w', Below w.heap.size w w' → R (.returned (.bool (xs.any p))) w') :
    Calls Try.prog 41 #[v, .func (.func f) #[] capt] w R := by
  have HI := Lib.hid (IndexFunc_fact lo hi v xs f capt p w hv hhi he hp)
  have HR := Lib.hid hR
  obtain ⟨ao, cap, rfl, -⟩ := hv.form
  clear hp hR
  go_enter Try.func41, Try.ntmps41
  go_wp2_with fail
  refine HI.out _ ?_
  intro o w1 ho hB
  have Ho := Lib.hid ho
  clear ho
  cases o with
  | none =>
    simp only [oidx]
    have hr := HR.out w1 hB
    rw [show xs.any p = false by
      have := List.findIdx?_eq_none_iff.1 Ho.out.symm
      rw [List.any_eq_false]
      simpa using this] at hr
    clear hB
    go_wp2_with fail
    first | exact hr | exact fin hr rfl
  | some i =>
    simp only [oidx]
    have hr := HR.out w1 hB
    rw [show xs.any p = true by
      obtain ⟨h, h1, -⟩ := List.findIdx?_eq_some_iff_getElem.1 Ho.out.symm
      rw [List.any_eq_true]
      exact ⟨xs[i], List.getElem_mem h, h1⟩] at hr
    have i0 : (0 : Int) ≤ (i : Int) := by omega
    have i1 : decide ((0 : Int) ≤ (i : Int)) = true := decide_eq_true i0
    clear hB
    go_wp2_with fail
    first | exact hr | exact fin hr rfl

/-! ### attributes by number -/
def hA (v : Value) : Option (DataW Value × List MemPlace) := some (.held v, [])
def Attr.val (a : Attr) : Value := .agg #[.int .i64 a.id, .string ⟨a.name.toArray⟩, .int .i64 a.type, .bool a.many, .int .i64 a.unique, .bool a.part, .bool a.index]
theorem lawI : Maps.Keyed Try.prog 2 := Maps.int_keyed Try.underlying2
theorem keyI (a : Int) : WideAt.IsKeyLit (.int .i64 a) := trivial
theorem wfI {a : Int} (h1 : 0 ≤ a) (h2 : a < 9007199254740992) : (Lit.int .i64 a).wf = true := by
  have e1 : IntKind.min .i64 = -9223372036854775808 := by decide
  have e2 : IntKind.max .i64 = 9223372036854775807 := by decide
  show (decide (IntKind.min .i64 ≤ a) && decide (a ≤ IntKind.max .i64)) = true
  rw [e1, e2, decide_eq_true (by omega), decide_eq_true (by omega)]
  rfl
theorem zeroAttr (w : World) : (zeroValue 24).run Try.prog w = .ok (.agg #[.int .i64 0, .string ⟨#[]⟩, .int .i64 0, .bool false, .int .i64 0, .bool false, .bool false]) w := by kernel_rfl
/-- A map in memory: for each number an attribute, or none. -/
structure MapA (W : World) (b n : Nat) (f : Int → Attr) : Prop where
  ex : ∃ D : DataW Value, W.ownsMap Try.prog 2 hA b n D ∧ Maps.IsMap D ∧ ∀ i, D.atKey (.int .i64 i) (.held zeroA.val) = .held (f i).val
theorem MapA.lt {W : World} {b n : Nat} {f : Int → Attr} (h : MapA W b n f) : b < W.heap.size := by
  obtain ⟨D, h1, -, -⟩ := h.ex; exact h1.lt
theorem MapA.new (w : World) : MapA (w.alloc (.map #[] 0)) w.heap.size 0 (fun _ => zeroA) := ⟨.map [], World.ownsMap_made _ _ _ _, Maps.isMap_empty, fun i => rfl⟩
theorem MapA.block {W W' : World} {b n : Nat} {f : Int → Attr} (h : MapA W b n f) (hb : W'.heap[b]? = W.heap[b]?) : MapA W' b n f := by
  obtain ⟨D, ⟨es, clock, h1, F, hs, hD⟩, h2, h3⟩ := h.ex
  exact ⟨D, ⟨es, clock, hb.trans h1, F, hs, hD⟩, h2, h3⟩
theorem MapA.kept {W W' : World} {b n : Nat} {f : Int → Attr} (h : MapA W b n f) (hB : Below W.heap.size W W') : MapA W' b n f := h.block (hB.block b h.lt)
theorem MapA.look {W : World} {b n : Nat} {f : Int → Attr} (h : MapA W b n f) {i : Int} (h1 : 0 ≤ i) (h2 : i < 9007199254740992) :
    (Instr.lookup 67 (.map (some b)) (.int .i64 i) false).run Try.prog W = .ok (.agg #[.int .i64 (f i).id, .string ⟨(f i).name.toArray⟩, .int .i64 (f i).type, .bool (f i).many, .int .i64 (f i).unique, .bool (f i).part, .bool (f i).index]) W := by
  obtain ⟨D, hown, hmap, hat⟩ := h.ex
  obtain ⟨v, ps, hrun, hv⟩ := hown.lookup lawI Try.underlying67 (zeroAttr W) (zd := .held zeroA.val) (zp := []) rfl (keyOf_int_mk Try.underlying2 (wfI h1 h2))
  rw [hat i] at hv
  simp only [hA, Option.some.injEq, Prod.mk.injEq, DataW.held.injEq] at hv
  rw [hv.1] at hrun
  exact hrun
def putA (f : Int → Attr) (a : Attr) : Int → Attr := fun i => if i = a.id then a else f i
theorem mapA_put {W' : World} {b n : Nat} {f : Int → Attr} {a : Attr} {D : DataW Value} (hmap : Maps.IsMap D) (hat : ∀ i, D.atKey (.int .i64 i) (.held zeroA.val) = .held (f i).val)
    (h : W'.ownsMap Try.prog 2 hA b n (D.put (.int .i64 a.id) (.held a.val))) : MapA W' b n (putA f a) :=
  ⟨_, h, hmap.put _ _, fun i => by
    unfold putA
    by_cases e : i = a.id
    · rw [if_pos e, e, atKey_put_same hmap (keyI _)]
    · rw [if_neg e, atKey_put_other (fun e2 => e (by injection e2)), hat i]⟩

set_option maxRecDepth 100000 in
set_option maxHeartbeats 2000000 in
theorem Holds11_any (x : Ft) (sv : Value) (lo hi pb mb b n : Nat) (f : Int → Attr) (g : FuncId) (q : Bool) (w : World) (hx : Spans lo hi w sv x.sp) (hhi : hi ≤ w.heap.size) (hpb : Blk w pb [.func (.func g) #[] #[]] 68) (hmb : Blk w mb [.map (some b)] 67) (hm : MapA w b n f)
    (h1 : 0 ≤ x.a) (h2 : x.a < 9007199254740992) (he : ∀ args w, (callFunc g args).run Try.prog w = .ok (.enter g args) w)
    (hp : ∀ w' R, Below w.heap.size w w' → Spans lo hi w' sv x.sp → (∀ w'', Below w'.heap.size w' w'' → R (.returned (.bool q)) w'') →
      Calls Try.prog g #[.agg #[.int .i64 (f x.a).id, .string ⟨(f x.a).name.toArray⟩, .int .i64 (f x.a).type, .bool (f x.a).many, .int .i64 (f x.a).unique, .bool (f x.a).part, .bool (f x.a).index], .agg #[.int .i64 x.e, .int .i64 x.a, .int .i64 x.v.kind, .int .i64 x.v.n, .string ⟨x.v.s.toArray⟩, sv]] w' R)
    (R : Ending → World → Prop) (hR : ∀ w', Below w.heap.size w w' → R (.returned (.bool q)) w') :
    Calls Try.prog 42 #[.agg #[.int .i64 x.e, .int .i64 x.a, .int .i64 x.v.kind, .int .i64 x.v.n, .string ⟨x.v.s.toArray⟩, sv], .pointer (some ⟨pb, 0, none⟩), .pointer (some ⟨mb, 0, none⟩)] w R := by
  have HR := Lib.hid hR
  have Hx := Lib.hid hx
  have Hp := Lib.hid hp
  obtain ⟨ax, cx, rfl, -, -, -, -⟩ := hx.form
  have hB1 := alloc_below w (.cells #[.int .i64 x.e, .int .i64 x.a, .int .i64 x.v.kind, .int .i64 x.v.n, .string ⟨x.v.s.toArray⟩, .slice ax x.sp.length cx] 49)
  have hbx := Blk.new w [.int .i64 x.e, .int .i64 x.a, .int .i64 x.v.kind, .int .i64 x.v.n, .string ⟨x.v.s.toArray⟩, .slice ax x.sp.length cx] 49 rfl
  have p0 := (hpb.below hB1 hpb.lt).cells.c1
  have m0 := (hmb.below hB1 hmb.lt).cells.c1
  have hrun := (hm.kept hB1).look h1 h2
  clear hR hx hp hpb hmb hm
  go_enter Try.func42, Try.ntmps42
  go_upto_region 1 with fail
  generalize w.alloc (.cells #[.int .i64 x.e, .int .i64 x.a, .int .i64 x.v.kind, .int .i64 x.v.n, .string ⟨x.v.s.toArray⟩, .slice ax x.sp.length cx] 49) = w1 at *
  obtain ⟨x0, x1, x2, x3, x4, x5⟩ := hbx.cells.f6
  have HB1 := Lib.hid hB1
  clear hB1 hbx
  go_wp2_with fail
  refine Hp.out w1 _ HB1.out (Sl.below Hx.out Sp.loc HB1.out hhi) (fun w2 hB2 => ?_)
  have hr := HR.out w2 (HB1.out.trans (hB2.mono HB1.out.size))
  clear hB2
  go_wp2_with fail
  first | exact hr | exact fin hr rfl
set_option maxRecDepth 100000 in
set_option maxHeartbeats 2000000 in
theorem Holds1_any (lo hi : Nat) (l : List Ft) (v : Value) (w : World) (hv : Fts lo hi w v l) (hhi : hi ≤ w.heap.size) (lb mb b n : Nat) (f : Int → Attr) (hlb : Blk w lb [v] 29) (hmb : Blk w mb [.map (some b)] 67) (hm : MapA w b n f)
    (hx : ∀ x ∈ l, 0 ≤ x.a ∧ x.a < 9007199254740992) (g : FuncId) (p : Attr → Ft → Bool) (he : ∀ args w, (callFunc g args).run Try.prog w = .ok (.enter g args) w)
    (hp : ∀ x ∈ l, ∀ sv w' R, Below w.heap.size w w' → Spans lo hi w' sv x.sp → (∀ w'', Below w'.heap.size w' w'' → R (.returned (.bool (p (f x.a) x))) w'') →
      Calls Try.prog g #[.agg #[.int .i64 (f x.a).id, .string ⟨(f x.a).name.toArray⟩, .int .i64 (f x.a).type, .bool (f x.a).many, .int .i64 (f x.a).unique, .bool (f x.a).part, .bool (f x.a).index], .agg #[.int .i64 x.e, .int .i64 x.a, .int .i64 x.v.kind, .int .i64 x.v.n, .string ⟨x.v.s.toArray⟩, sv]] w' R)
    (R : Ending → World → Prop) (hR : ∀ w', Below w.heap.size w w' → R (.returned (.bool (l.any fun x => p (f x.a) x))) w') :
    Calls Try.prog 40 #[.func (.func g) #[] #[], .pointer (some ⟨lb, 0, none⟩), .pointer (some ⟨mb, 0, none⟩)] w R := by
  have HR := Lib.hid hR
  have Hv := Lib.hid hv
  have Hp := Lib.hid hp
  have Hmb := Lib.hid hmb
  have Hm := Lib.hid hm
  obtain ⟨av, cv, rfl, -, -, -, -⟩ := hv.form
  have hB1 := alloc_below w (.cells #[.func (.func g) #[] #[]] 68)
  have hpb := Blk.new w [.func (.func g) #[] #[]] 68 rfl
  have l0 := (hlb.below hB1 hlb.lt).cells.c1
  clear hR hv hp hlb hmb hm
  go_enter Try.func40, Try.ntmps40
  go_upto_region 1 with fail
  generalize w.alloc (.cells #[.func (.func g) #[] #[]] 68) = w1 at *
  have HB1 := Lib.hid hB1
  have hz1 := hB1.size
  have Hpb := Lib.hid hpb
  clear hB1 hpb
  go_wp2_with fail
  refine ContainsFunc_fact lo hi _ l 42 _ (fun x => p (f x.a) x) w1 (Sl.below Hv.out ftE_loc HB1.out hhi) (by omega) (enters_of Try.func42 (by kernel_rfl) rfl) (fun x hxl sv w2 R2 hB2 hsv hR2 => ?_) _ (fun w2 hB2 => ?_)
  · have hBb := HB1.out.trans (hB2.mono hz1)
    refine Holds11_any x sv lo hi w.heap.size mb b n f g (p (f x.a) x) w2 hsv (by have := hBb.size; omega) (Hpb.out.below hB2 Hpb.out.lt) (Hmb.out.below hBb Hmb.out.lt) (Hm.out.kept hBb) (hx x hxl).1 (hx x hxl).2 he (fun w3 R3 hB3 hsv3 hR3 => ?_) R2 hR2
    exact Hp.out x hxl sv w3 R3 (hBb.trans (hB3.mono hBb.size)) hsv3 hR3
  have hr := HR.out w2 (HB1.out.trans (hB2.mono hz1))
  clear hB2
  go_wp2_with fail
  first | exact hr | exact fin hr rfl
end Go.Proofs.Ytkcpanaojehgiaa
