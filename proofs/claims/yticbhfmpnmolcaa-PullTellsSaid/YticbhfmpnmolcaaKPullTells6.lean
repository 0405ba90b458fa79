/- Texts that the proofs of PullTells stand on, part 6. -/
import Derived.Maps.Views
import Derived.Lib.SliceRun
import Derived.Maps.OwnSet
import Derived.Test.YticbhfmpnmolcaaKPullTells5
/- pull's puller; clones of items and of paths; what is within a leaf. (Printed by pulo.py.) -/
section
set_option linter.unusedVariables false
set_option linter.unusedSimpArgs false
namespace Go.Proofs.Yticbhfmpnmolcaa
open Go.RowKit Go.ChangeMaps Go.WideMaps Go.Maps
set_option linter.unusedVariables false
set_option linter.unusedSimpArgs false
theorem lawS : Maps.Keyed Try.prog 9 := Maps.string_keyed Try.underlying9
theorem keyS (s : List UInt8) : WideAt.IsKeyLit (.string s) := trivial
theorem zeroI64 (w : World) : (zeroValue 2).run Try.prog w = .ok (.int .i64 0) w := by kernel_rfl
theorem keyOf_s {s : List UInt8} (h : s.length ≤ 281474976710656) : keyOf Try.prog 9 (.string ⟨s.toArray⟩) = some (.string s) := keyOf_string_mk Try.underlying9 (by simp only [maxLen, ByteArray.size, List.size_toArray]; omega)
/-- Attributes' numbers by their names, in a map. -/
def NamesIn (M : Nat) (w : World) (ats : List Attr) : Prop :=
  ∃ (k : Nat) (D : DataW Unit), w.ownsMap Try.prog 9 (plainElem Try.prog 2) M k D ∧ (∀ s, D.atKey (.string s) (.lit (.int .i64 0)) = .lit (.int .i64 (idOf ats s))) ∧ ∀ s, Maps.has D (.string s) = (ats.findIdx? (byName s)).isSome
set_option maxRecDepth 100000 in
theorem NamesIn.look {M : Nat} {w : World} {ats : List Attr} (h : NamesIn M w ats) {s : List UInt8} (hs : s.length ≤ 281474976710656) : (Instr.lookup 47 (.map (some M)) (.string ⟨s.toArray⟩) false).run Try.prog w = .ok (.int .i64 (idOf ats s)) w := by
  obtain ⟨k, D, h1, h2, -⟩ := h
  obtain ⟨c, hrun, hat, -⟩ := h1.lookup_int lawS Try.underlying47 Try.underlying2 (zeroI64 w) (keyOf_s hs)
  have e := hat.symm.trans (h2 s)
  injection e with e
  injection e with _ e
  rw [hrun, e]
set_option maxRecDepth 100000 in
theorem NamesIn.look_ok {M : Nat} {w : World} {ats : List Attr} (h : NamesIn M w ats) {s : List UInt8} (hs : s.length ≤ 281474976710656) : (Instr.lookup 47 (.map (some M)) (.string ⟨s.toArray⟩) true).run Try.prog w = .ok (.tuple #[.int .i64 (idOf ats s), .bool (ats.findIdx? (byName s)).isSome]) w := by
  obtain ⟨k, D, h1, h2, h3⟩ := h
  obtain ⟨v, ps, hrun, hv⟩ := h1.look_ok lawS Try.underlying47 (zeroI64 w) (plainElem_int Try.underlying2 (by decide)) (keyOf_s hs)
  rw [h2 s] at hv
  obtain ⟨c, rfl, hz, -⟩ := plainElem_int_inv Try.underlying2 hv
  have e := congrArg Prod.fst hz
  simp only at e
  injection e with e
  injection e with _ e
  rw [hrun, h3 s, e]
theorem NamesIn.same {M : Nat} {w w' : World} {ats : List Attr} (h : NamesIn M w ats) (hb : w'.heap[M]? = w.heap[M]?) : NamesIn M w' ats := by
  obtain ⟨k, D, ⟨es, cl, h1, h2⟩, h3⟩ := h
  exact ⟨k, D, ⟨es, cl, hb.trans h1, h2⟩, h3⟩
theorem NamesIn.lt {M : Nat} {w : World} {ats : List Attr} (h : NamesIn M w ats) : M < w.heap.size := by
  obtain ⟨k, D, h1, -⟩ := h
  exact h1.lt
/-- pull's puller: B its block; facts lie ahead of it, the names' map in a block of its own, attributes behind. -/
structure PulX (B M hA : Nat) (w : World) (lv av : Value) (fs : List Ft) (ats : List Attr) (n : Int) : Prop where
  blk : Blk w B [lv, .map (some M), av, .int .i64 n, .bool (decide (10000 < n))] 49
  facts : Fts 0 B w lv fs
  attrs : Attrs (B + 1) hA w av ats
  le : hA ≤ w.heap.size
  names : NamesIn M w ats
  ne : M ≠ B
theorem PulX.turn {B M hA : Nat} {w w' : World} {lv av : Value} {fs : List Ft} {ats : List Attr} {n n' : Int} (h : PulX B M hA w lv av fs ats n) (hO : Only (· = B) w w') (hb : Blk w' B [lv, .map (some M), av, .int .i64 n', .bool (decide (10000 < n'))] 49) : PulX B M hA w' lv av fs ats n' :=
  ⟨hb, Sl.agree h.facts ftE_loc (hO.agree (Nat.le_of_lt h.blk.lt) (fun k e => .inr (by have : k = B := e; omega))), Sl.agree h.attrs Attrs.loc (hO.agree h.le (fun k e => .inl (by have : k = B := e; omega))), Nat.le_trans h.le hO.size, h.names.same (hO.block M h.names.lt h.ne), h.ne⟩
theorem PulX.below {B M hA : Nat} {w w' : World} {lv av : Value} {fs : List Ft} {ats : List Attr} {n : Int} (h : PulX B M hA w lv av fs ats n) (hB : Below w.heap.size w w') : PulX B M hA w' lv av fs ats n := h.turn (Below.only hB) (h.blk.below hB h.blk.lt)
set_option maxRecDepth 100000 in
set_option maxHeartbeats 2000000 in
theorem CloneI_any (lo hi : Nat) (hs : List IH) (v : Value) (w : World) (hk : Sl (flat IH.enc) 11 lo hi w v hs) (hhi : hi ≤ w.heap.size) (hlen : hs.length ≤ 1000000000)
    (R : Ending → World → Prop) (hR : ∀ w' v', Below w.heap.size w w' → Own IH.enc 66 11 w.heap.size w' v' hs → R (.returned v') w') : Calls Try.prog 42 #[v] w R := by
  have Hto := Lib.hid hR
  clear hR
  rcases hk.cases with ⟨rfl, ao, cap, rfl, -, hn⟩ | ⟨hp, b, off, cap, rfl, hle, hle2, hb1, hb2, hc⟩
  · cases ao with
    | none =>
      cases hn rfl
      have hq := fun w => Lib.run_eql_slice_nil (P := Try.prog) w 24 66 none 0 0 0 0 Try.underlying24
      go_enter Try.func42, Try.ntmps42
      go_wp2_with (at_builtin; refine AtApp.of ?_)
      first | exact Hto.out _ _ (Below.refl _ _) (Own.nil _ _ _ _ _) | exact fin (Hto.out _ _ (Below.refl _ _) (Own.nil _ _ _ _ _)) rfl
    | some a =>
      have hq := fun w => Lib.run_eql_slice_nil (P := Try.prog) w 24 66 (some a) 0 cap 0 0 Try.underlying24
      have Hk := Lib.hid hk
      clear hk
      go_enter Try.func42, Try.ntmps42
      go_wp2_with (at_builtin; refine AtApp.of ?_)
      have hB1 : Below w.heap.size w (w.alloc (.cells #[] 66)) := (Below.refl _ _).alloc (Nat.le_refl _) _
      obtain ⟨v2, w2, hr, ho2, ha2⟩ := app_sl Try.underlying24 infoI rfl (fun _ => rfl) IH.one (Own.made IH.enc 66 11 w.heap.size w rfl (Nat.le_refl _)) (Sl.below Hk.out (flat_loc _) hB1 hhi) (by simp) (by decide) hB1.size
      refine AtApp.go hr rfl rfl rfl rfl ?_
      have hB2 : Below w.heap.size w w2 := hB1.trans (ha2.below hB1.size (fun k e => by simp [Value.ownBlock] at e; omega))
      clear hr ha2
      go_wp2
      exact fin (Hto.out _ _ hB2 ho2) rfl
  · have Hk := Lib.hid hk
    clear hk hc
    have hq := fun w => Lib.run_eql_slice_nil (P := Try.prog) w 24 66 (some ⟨b, off, none⟩) hs.length cap 0 0 Try.underlying24
    go_enter Try.func42, Try.ntmps42
    go_wp2_with (at_builtin; refine AtApp.of ?_)
    have hB1 : Below w.heap.size w (w.alloc (.cells #[] 66)) := (Below.refl _ _).alloc (Nat.le_refl _) _
    obtain ⟨v2, w2, hr, ho2, ha2⟩ := app_sl Try.underlying24 infoI rfl (fun _ => rfl) IH.one (Own.made IH.enc 66 11 w.heap.size w rfl (Nat.le_refl _)) (Sl.below Hk.out (flat_loc _) hB1 hhi) (by simp; omega) (by decide) hB1.size
    refine AtApp.go hr rfl rfl rfl rfl ?_
    have hB2 : Below w.heap.size w w2 := hB1.trans (ha2.below hB1.size (fun k e => by simp [Value.ownBlock] at e; omega))
    clear hr ha2
    go_wp2
    exact fin (Hto.out _ _ hB2 ho2) rfl
set_option maxRecDepth 100000 in
set_option maxHeartbeats 2000000 in
theorem CloneN_any (lo hi : Nat) (hs : List Int) (v : Value) (w : World) (hk : Sl (flat inE) 1 lo hi w v hs) (hhi : hi ≤ w.heap.size) (hlen : hs.length ≤ 1000000000)
    (R : Ending → World → Prop) (hR : ∀ w' v', Below w.heap.size w w' → Own inE 2 1 w.heap.size w' v' hs → R (.returned v') w') : Calls Try.prog 73 #[v] w R := by
  have Hto := Lib.hid hR
  clear hR
  rcases hk.cases with ⟨rfl, ao, cap, rfl, -, hn⟩ | ⟨hp, b, off, cap, rfl, hle, hle2, hb1, hb2, hc⟩
  · cases ao with
    | none =>
      cases hn rfl
      have hq := fun w => Lib.run_eql_slice_nil (P := Try.prog) w 53 2 none 0 0 0 0 Try.underlying53
      go_enter Try.func73, Try.ntmps73
      go_wp2_with (at_builtin; refine AtApp.of ?_)
      first | exact Hto.out _ _ (Below.refl _ _) (Own.nil _ _ _ _ _) | exact fin (Hto.out _ _ (Below.refl _ _) (Own.nil _ _ _ _ _)) rfl
    | some a =>
      have hq := fun w => Lib.run_eql_slice_nil (P := Try.prog) w 53 2 (some a) 0 cap 0 0 Try.underlying53
      have Hk := Lib.hid hk
      clear hk
      go_enter Try.func73, Try.ntmps73
      go_wp2_with (at_builtin; refine AtApp.of ?_)
      have hB1 : Below w.heap.size w (w.alloc (.cells #[] 2)) := (Below.refl _ _).alloc (Nat.le_refl _) _
      obtain ⟨v2, w2, hr, ho2, ha2⟩ := app_sl Try.underlying53 infoN rfl (fun _ => rfl) inE.one (Own.made inE 2 1 w.heap.size w rfl (Nat.le_refl _)) (Sl.below Hk.out (flat_loc _) hB1 hhi) (by simp) (by decide) hB1.size
      refine AtApp.go hr rfl rfl rfl rfl ?_
      have hB2 : Below w.heap.size w w2 := hB1.trans (ha2.below hB1.size (fun k e => by simp [Value.ownBlock] at e; omega))
      clear hr ha2
      go_wp2
      exact fin (Hto.out _ _ hB2 ho2) rfl
  · have Hk := Lib.hid hk
    clear hk hc
    have hq := fun w => Lib.run_eql_slice_nil (P := Try.prog) w 53 2 (some ⟨b, off, none⟩) hs.length cap 0 0 Try.underlying53
    go_enter Try.func73, Try.ntmps73
    go_wp2_with (at_builtin; refine AtApp.of ?_)
    have hB1 : Below w.heap.size w (w.alloc (.cells #[] 2)) := (Below.refl _ _).alloc (Nat.le_refl _) _
    obtain ⟨v2, w2, hr, ho2, ha2⟩ := app_sl Try.underlying53 infoN rfl (fun _ => rfl) inE.one (Own.made inE 2 1 w.heap.size w rfl (Nat.le_refl _)) (Sl.below Hk.out (flat_loc _) hB1 hhi) (by simp; omega) (by decide) hB1.size
    refine AtApp.go hr rfl rfl rfl rfl ?_
    have hB2 : Below w.heap.size w w2 := hB1.trans (ha2.below hB1.size (fun k e => by simp [Value.ownBlock] at e; omega))
    clear hr ha2
    go_wp2
    exact fin (Hto.out _ _ hB2 ho2) rfl
set_option maxRecDepth 100000 in
set_option maxHeartbeats 4000000 in
theorem IndexN_any (lo hi : Nat) (l : List Int) (e : Int) (v : Value) (w : World) (hv : Ints lo hi w v l) (R : Ending → World → Prop) (hR : ∀ z : Int, decide (0 ≤ z) = l.contains e → R (.returned (.int .i64 z)) w) : Calls Try.prog 101 #[v, .int .i64 e] w R := by
  have HR := Lib.hid hR
  obtain ⟨ao, cap, rfl, hcl, hcm, -, hc⟩ := hv.form
  have hl63 := hv.len
  have Hc := Lib.hid hc
  clear hR hv hc
  go_enter Try.func101, Try.ntmps101
  go_wp2_with fail
  go_loop [8] (fun t8 => ∃ k : Nat, k ≤ l.length ∧ t8 = .int .i64 k ∧ Hid (∀ i (h : i < l.length), i < k → l[i] ≠ e)) (fun t8 => l.length - (intOf t8).toNat)
  case atStart => exact ⟨0, Nat.zero_le _, rfl, Lib.hid (fun i _ h => absurd h (Nat.not_lt_zero _))⟩
  case round =>
    obtain ⟨k, hk, rfl, Hno⟩ := hrel
    have kk0 : (0 : Int) ≤ (k : Int) := by omega
    by_cases hlt : k < l.length
    · obtain ⟨b, off, rfl, hb1, hb2, hcc⟩ := Hc.out k hlt
      obtain ⟨cs, _, hcs, rfl⟩ := hcc k hlt
      have h0 := hcs.c1
      rw [Nat.mul_one] at h0
      have kkl : (k : Int) < (l.length : Int) := by omega
      have Hin : Hid (l[k] = e → l.contains e = true) := Lib.hid (fun h => by rw [List.contains_iff_mem]; exact h ▸ List.getElem_mem hlt)
      have Hnx : Hid (l[k] ≠ e → ∀ i (h : i < l.length), i < k + 1 → l[i] ≠ e) := Lib.hid (fun h i hi hik => by
        by_cases e2 : i = k
        · subst e2; exact h
        · exact Hno.out i hi (by omega))
      clear hcc hcs
      generalize l[k] = y at *
      by_cases he : y = e
      · have hr := HR.out k (by rw [Hin.out he]; simp)
        have he2 : (e == y) = true := by simpa using he.symm
        clear he
        go_wp2_with fail
        first | exact hr | exact fin hr rfl
      · have he2 : (e == y) = false := by simpa using fun h => he h.symm
        have Hn2 := Lib.hid (Hnx.out he)
        go_wp2_with fail
        go_round
        case rel => exact ⟨k + 1, by omega, by go_num, Hn2⟩
        case measure => simp [intOf]; omega
    · obtain rfl : k = l.length := by omega
      have llt : ¬ ((l.length : Nat) : Int) < (l.length : Int) := by omega
      have hr := HR.out (-1) (by
        rw [show l.contains e = false by
          rw [Bool.eq_false_iff]
          intro h
          rw [List.contains_iff_mem] at h
          obtain ⟨i, hi, e2⟩ := List.getElem_of_mem h
          exact Hno.out i hi hi e2]
        decide)
      clear hk
      go_wp2_with fail
      first | exact hr | exact fin hr rfl
set_option maxRecDepth 100000 in
set_option maxHeartbeats 4000000 in
theorem ContainsN_any (lo hi : Nat) (l : List Int) (e : Int) (v : Value) (w : World) (hv : Ints lo hi w v l) (R : Ending → World → Prop) (hR : R (.returned (.bool (l.contains e))) w) : Calls Try.prog 91 #[v, .int .i64 e] w R := by
  have HR := Lib.hid hR
  have Hv := Lib.hid hv
  obtain ⟨ao, cap, rfl, -⟩ := hv.form
  clear hR hv
  go_enter Try.func91, Try.ntmps91
  go_wp2_with fail
  refine IndexN_any lo hi l e _ w Hv.out _ (fun z hz => ?_)
  have hr := HR.out
  rw [← hz] at hr
  clear hz
  go_wp2_with fail
  first | exact hr | exact fin hr rfl | exact fin hr (by simp)
/-- An item with what is within it. -/
structure ItIn (B : Nat) (w : World) (x : It) (xp : Option Addr) (xc : Nat) : Prop where
  lens : x.lens
  sub : ∃ D qs, qs.map (·.1) = x.sub ∧ Pat B D 0 B w (.slice xp x.sub.length xc) qs
theorem ItIn.turn {B : Nat} {w w' : World} {x : It} {xp : Option Addr} {xc : Nat} (h : ItIn B w x xp xc) (hO : Only (· = B) w w') : ItIn B w' x xp xc := by
  obtain ⟨D, qs, h1, h2⟩ := h.sub
  exact ⟨h.lens, D, qs, h1, h2.turn hO⟩
def less1 (x : It) (y : It) : It := if y.attr = x.attr ∧ y.back = x.back ∧ y.wild = false then { y with rc := y.rc - 1 } else y
def lessH (x : It) (y : IH) : IH := (less1 x y.1, y.2)
theorem lessH_map (x : It) (ps : List IH) : (ps.map (lessH x)).map (·.1) = lessP x (ps.map (·.1)) := by
  rw [List.map_map]
  unfold lessP
  rw [List.map_map]
  exact List.map_congr_left (fun y _ => rfl)
theorem lessH_pat {B D lo hi lo' : Nat} {w w' : World} {v v' : Value} {ps : List IH} (x : It) (h : Pat B D lo hi w v ps) (hs : IHs lo' w'.heap.size w' v' (ps.map (lessH x))) (hlo : B + 1 ≤ lo') (hO : Only (· = B) w w') : Pat B D lo' w'.heap.size w' v' (ps.map (lessH x)) :=
  ⟨hs, fun p hp => by
    obtain ⟨y, hy, rfl⟩ := List.mem_map.1 hp
    have h2 := (h.turn hO).sub y hy
    obtain ⟨z, zh⟩ := y
    unfold lessH less1
    simp only
    split
    · exact itE_rc h2
    · exact h2, .inr hlo, Nat.le_refl _, (h.turn hO).leB, by rw [lessH_map, allL_same (lessP_sub _ _)]; exact h.all⟩
theorem rc_fine {l : List It} (h : finePat l = true) {y : It} (hy : y ∈ l) (hw : y.wild = false) : -1 ≤ y.rc ∧ y.rc ≤ 100 := (one_apart (fine_one h hy) hw).2
set_option maxRecDepth 100000 in
set_option maxHeartbeats 16000000 in
theorem within_any (B D lo hi lo2 hi2 : Nat) (x : It) (xp : Option Addr) (xc : Nat) (ps : List IH) (e : Int) (path : List Int) (v pv : Value) (w : World)
    (hx : ItIn B w x xp xc) (hp : Pat B D lo hi w v ps) (hpa : Pth B lo2 hi2 w pv path) (hfine : finePat (ps.map (·.1)) = true ∨ (x.nested = false ∧ x.rc = 0)) (hBw : B < w.heap.size) (R : Ending → World → Prop)
    (hR0 : ∀ w', Below w.heap.size w w' → withinP x (ps.map (·.1)) e path = none → R (.returned (.tuple #[.slice none 0 0, .bool false])) w')
    (hR1 : ∀ w' a l c D' lo' hi' qs, Below w.heap.size w w' → withinP x (ps.map (·.1)) e path = some (qs.map (·.1)) → Pat B D' lo' hi' w' (.slice a l c) qs → (hi' ≤ hi ∨ hi' ≤ B ∨ w.heap.size ≤ lo') → R (.returned (.tuple #[.slice a l c, .bool true])) w') :
    Calls Try.prog 72 #[.agg #[.bool x.wild, .string ⟨x.attr.toArray⟩, .bool x.back, .int .i64 x.limit, .bool x.has, .int .i64 x.dflt.kind, .int .i64 x.dflt.n, .string ⟨x.dflt.s.toArray⟩, .bool x.nested, .slice xp x.sub.length xc, .int .i64 x.rc], v, .int .i64 e, pv] w R := by
  have HR0 := Lib.hid hR0
  have HR1 := Lib.hid hR1
  have Hx := Lib.hid hx
  have Hp := Lib.hid hp
  have Hpa := Lib.hid hpa
  have hplen := hp.len
  have Hfine := Lib.hid hfine
  obtain ⟨ap, cp, rfl, -⟩ := hp.sl.form
  obtain ⟨aq, cq, rfl, -⟩ := hpa.sl.form
  have hB1 := alloc_below w (.cells #[.bool x.wild, .string ⟨x.attr.toArray⟩, .bool x.back, .int .i64 x.limit, .bool x.has, .int .i64 x.dflt.kind, .int .i64 x.dflt.n, .string ⟨x.dflt.s.toArray⟩, .bool x.nested, .slice xp x.sub.length xc, .int .i64 x.rc] 66)
  have hb1 := Blk.new w [.bool x.wild, .string ⟨x.attr.toArray⟩, .bool x.back, .int .i64 x.limit, .bool x.has, .int .i64 x.dflt.kind, .int .i64 x.dflt.n, .string ⟨x.dflt.s.toArray⟩, .bool x.nested, .slice xp x.sub.length xc, .int .i64 x.rc] 66 rfl
  clear hR0 hR1 hx hp hpa hfine
  go_enter Try.func72, Try.ntmps72
  go_upto_block 0 with fail
  generalize w.alloc (.cells #[.bool x.wild, .string ⟨x.attr.toArray⟩, .bool x.back, .int .i64 x.limit, .bool x.has, .int .i64 x.dflt.kind, .int .i64 x.dflt.n, .string ⟨x.dflt.s.toArray⟩, .bool x.nested, .slice xp x.sub.length xc, .int .i64 x.rc] 66) = w1 at *
  obtain ⟨bx, ebx⟩ : ∃ b, b = w.heap.size := ⟨_, rfl⟩
  rw [← ebx] at hb1 ⊢
  have HB1 := Lib.hid hB1
  have Hb1 := Lib.hid hb1
  have hz1 := hB1.size
  have HO1 : Hid (Only (· = B) w w1) := Lib.hid (Below.only hB1)
  obtain ⟨x0, x1, x2, x3, x4, x5, x6, x7, x8, x9, x10⟩ := item_cells hb1.cells
  simp only [Nat.zero_add] at x8 x9 x10
  have hbxw : bx = w.heap.size := ebx
  have Hbxw := Lib.hid hbxw
  clear hB1 hb1 ebx hbxw x0 x1 x2 x3 x4 x5 x6 x7
  obtain ⟨nb, hnb⟩ : ∃ nb, nb = x.nested := ⟨_, rfl⟩
  rw [← hnb] at x8
  have Hnb := Lib.hid hnb
  clear hnb
  cases nb with
  | true =>
    obtain ⟨D', qs, hq1, hq2⟩ := (Hx.out.turn HO1.out).sub
    have hr := HR1.out w1 xp x.sub.length xc D' 0 B qs HB1.out (by unfold withinP; rw [if_pos Hnb.out.symm, hq1]) hq2 (.inr (.inl (Nat.le_refl _)))
    clear hq1 hq2
    go_wp2_with fail
    first | exact hr | exact fin hr rfl
  | false =>
    have hnf : ¬ x.nested = true := by rw [← Hnb.out]; decide
    have Hnf := Lib.hid hnf
    clear hnf
    by_cases hrc : x.rc = 0
    · have hrc2 : (x.rc == 0) = true := by simpa using hrc
      have hr := HR0.out w1 HB1.out (by unfold withinP; rw [if_neg Hnf.out, if_pos (.inl hrc)])
      clear hrc
      go_wp2_with fail
      first | exact hr | exact fin hr rfl
    · have hrc2 : (x.rc == 0) = false := by simpa using hrc
      have HfineT : Hid (finePat (ps.map (·.1)) = true) := Lib.hid (by
        rcases Hfine.out with h | ⟨-, h⟩
        · exact h
        · exact absurd h hrc)
      have Hrc := Lib.hid hrc
      clear hrc
      have Hpa1 := Lib.hid (Hpa.out.turn HO1.out)
      go_wp2_with fail
      refine ContainsN_any lo2 hi2 path e _ w1 Hpa1.out.sl _ ?_
      cases hpc : path.contains e with
      | true =>
        have hr := HR0.out w1 HB1.out (by unfold withinP; rw [if_neg Hnf.out, if_pos (.inr (by simpa using hpc))])
        clear hpc
        go_wp2_with fail
        first | exact hr | exact fin hr rfl
      | false =>
        have Hw : Hid (withinP x (ps.map (·.1)) e path = if x.rc < 0 then some (ps.map (·.1)) else some (lessP x (ps.map (·.1)))) := Lib.hid (by
          unfold withinP
          rw [if_neg Hnf.out, if_neg]
          rintro (h | h)
          · exact Hrc.out h
          · have h2 : path.contains e = true := by simpa using h
            rw [hpc] at h2; cases h2)
        clear hpc
        by_cases hneg : x.rc < 0
        · have hr := HR1.out w1 ap ps.length cp D lo hi ps HB1.out (by rw [Hw.out, if_pos hneg]) (Hp.out.turn HO1.out) (.inl (Nat.le_refl _))
          go_wp2_with fail
          first | exact hr | exact fin hr rfl
        · have Hw2 : Hid (withinP x (ps.map (·.1)) e path = some (lessP x (ps.map (·.1)))) := Lib.hid (by rw [Hw.out, if_neg hneg])
          clear Hw
          go_wp2_with fail
          have Hp1 := Lib.hid (Hp.out.turn HO1.out)
          refine CloneI_any lo hi ps _ w1 Hp1.out.sl Hp1.out.le (by omega) _ (fun w2 v2 hB2 ho2 => ?_)
          have HB2 := Lib.hid (HB1.out.trans (hB2.mono hz1))
          have Ho2 := Lib.hid ho2
          have HB20 := Lib.hid hB2
          have Hb2 := Lib.hid (Hb1.out.below hB2 Hb1.out.lt)
          have hz2 := hB2.size
          obtain ⟨np, hnp⟩ : ∃ np, np = ps.length := ⟨_, rfl⟩
          obtain ⟨g, c2, e2⟩ : ∃ g c, v2 = .slice g np c := by obtain ⟨p, c, e⟩ := Own.slice ho2; exact ⟨p, c, by rw [e, hnp]⟩
          subst e2
          have Hnp := Lib.hid hnp
          rw [← hnp] at hplen
          clear hB2 ho2 hnp x8 x9 x10 hneg hrc2
          go_wp2_with fail
          go_loopw [35] (fun t35 wr => ∃ k : Nat, k ≤ np ∧ t35 = .int .i64 k ∧ Below w1.heap.size w2 wr ∧ OwnI w1.heap.size wr (.slice g np c2) ((ps.take k).map (lessH x) ++ ps.drop k)) (fun t35 _ => np - (intOf t35).toNat)
          case atStart => exact ⟨0, Nat.zero_le _, rfl, Below.refl _ _, by simpa using Ho2.out⟩
          case round =>
            obtain ⟨k, hk, rfl, hB, ho⟩ := hrel
            obtain ⟨wo, ewo⟩ : ∃ x, x = wr := ⟨_, rfl⟩
            subst ewo
            have HB := Lib.hid hB
            have Ho := Lib.hid ho
            have hz := hB.size
            have kk0 : (0 : Int) ≤ (k : Int) := by omega
            have Hb := Lib.hid (Hb2.out.below hB (by have := Hb1.out.lt; omega))
            clear hB ho
            by_cases hlt : k < np
            · have kkl : (k : Int) < (np : Int) := by omega
              have hkp : k < ps.length := by have := Hnp.out; omega
              obtain ⟨ao', cap', e', -, -, -, hc⟩ := (Sl.ofOwn IH.len Ho.out).form
              injection e' with e1 e2 e3
              subst e1 e3
              have hll : ((ps.take k).map (lessH x) ++ ps.drop k).length = ps.length := by simp; omega
              have hkl : k < ((ps.take k).map (lessH x) ++ ps.drop k).length := by omega
              have hne : (ps.take k).map (lessH x) ++ ps.drop k ≠ [] := List.ne_nil_of_length_pos (by omega)
              obtain ⟨g', c', e4, hg1, hg2, -, -, -, hg6⟩ := Own.form Ho.out hne
              injection e4 with e4 e5 e6
              subst e4 e6
              obtain ⟨b', o', e7, -, -, hcc⟩ := hc k hkl
              injection e7 with e7
              injection e7 with e7 e8
              subst e7 e8
              obtain ⟨cs, -, hcs, e9⟩ := hcc k hkl
              have e10 : cs = IH.enc ((ps.take k).map (lessH x) ++ ps.drop k)[k] := e9
              have hget : ((ps.take k).map (lessH x) ++ ps.drop k)[k] = ps[k] := by
                rw [List.getElem_append_right (by rw [List.length_map, List.length_take]; omega)]
                simp only [List.length_map, List.length_take, List.getElem_drop]
                congr 1
                omega
              rw [e10, hget] at hcs
              have Hget := Lib.hid hget
              have Hstep : Hid (((ps.take k).map (lessH x) ++ ps.drop k).set k (lessH x ps[k]) = (ps.take (k + 1)).map (lessH x) ++ ps.drop (k + 1)) := Lib.hid (by
                have hd : ps.drop k = ps[k] :: ps.drop (k + 1) := List.drop_eq_getElem_cons hkp
                rw [List.take_succ_eq_append_getElem hkp, List.map_append, List.set_append, if_neg (by rw [List.length_map, List.length_take]; omega)]
                have e0 : k - ((ps.take k).map (lessH x)).length = 0 := by rw [List.length_map, List.length_take]; omega
                rw [e0, hd, List.set_cons_zero]
                simp)
              have Hsame : Hid (lessH x ps[k] = ps[k] → (ps.take k).map (lessH x) ++ ps.drop k = (ps.take (k + 1)).map (lessH x) ++ ps.drop (k + 1)) := Lib.hid (fun h => by
                rw [← Hstep.out, h, ← hget, List.set_getElem_self])
              have Hrcf : Hid (ps[k].1.wild = false → -1 ≤ ps[k].1.rc ∧ ps[k].1.rc ≤ 100) := Lib.hid (fun h => rc_fine HfineT.out (List.mem_map.2 ⟨_, List.getElem_mem hkp, rfl⟩) h)
              have Hkl := Lib.hid hkl
              clear hc hcc e9 e10 hget hll hne e5 e2
              obtain ⟨yy, hyy⟩ : ∃ yy, yy = ps[k] := ⟨_, rfl⟩
              rw [← hyy] at hcs Hget Hstep Hsame Hrcf
              obtain ⟨y, yp, yc⟩ := yy
              simp only at Hrcf
              have hcs2 : CellsAt wo g' (k * 11) [.bool y.wild, .string ⟨y.attr.toArray⟩, .bool y.back, .int .i64 y.limit, .bool y.has, .int .i64 y.dflt.kind, .int .i64 y.dflt.n, .string ⟨y.dflt.s.toArray⟩, .bool y.nested, .slice yp y.sub.length yc, .int .i64 y.rc] := by have h := hcs; rw [Nat.zero_add] at h; exact h
              clear hcs hyy cs
              obtain ⟨yw, hyw⟩ : ∃ yw, yw = y.wild := ⟨_, rfl⟩
              rw [← hyw] at hcs2 Hrcf
              have Hyw := Lib.hid hyw
              have Hit := Lib.hid hcs2
              have yfz := hg6 (k * 11 + 10)
              have hgl : g' < wo.heap.size := hg2
              have Hbl := Lib.hid hgl
              clear hcs2 hyw hg6
              by_cases ha : y.attr = x.attr
              · have hq1 : (y.attr == x.attr) = true := by simpa using ha
                by_cases hb : y.back = x.back
                · have hq2 : (y.back == x.back) = true := by simpa using hb
                  cases yw with
                  | true =>
                    have Hs := Lib.hid (Hsame.out (by unfold lessH less1; rw [if_neg]; rintro ⟨-, -, h⟩; rw [← Hyw.out] at h; cases h))
                    clear ha hb
                    go_upto_region 11 with fail
                    refine wp_region_held_drew (S := fun w' => Below wo.heap.size wo w') (by kernel_rfl) (Below.refl _ _).drew (fun hHeld => ?_)
                    refine wpAnyH_take (i := 0) (v := .slice (some ⟨g', 0, none⟩) np c2) rfl (by kernel_rfl) (by kernel_rfl) (by kernel_rfl) (fun _ _ _ h => h) (Or.inl ⟨by rfl, ?_⟩) hHeld ?_
                    · intro w' hSw; go_simp
                    try simp only [ν1, ν2, ν3, ν4, ν5, ν6, ν7, ν8]
                    refine wpAnyH_take (i := 1) (v := .int .i64 ((k : Int))) rfl (by kernel_rfl) (by kernel_rfl) (by kernel_rfl) (fun _ _ _ h => h) (Or.inl ⟨by rfl, ?_⟩) hHeld ?_
                    · intro w' hSw; go_simp
                    try simp only [ν1, ν2, ν3, ν4, ν5, ν6, ν7, ν8]
                    refine wpAnyH_take (i := 2) (v := .pointer (some ⟨g', k * 11, none⟩)) rfl (by kernel_rfl) (by kernel_rfl) (by kernel_rfl) (fun _ _ _ h => h) (Or.inl ⟨by rfl, ?_⟩) hHeld ?_
                    · intro w' hSw; go_simp
                    try simp only [ν1, ν2, ν3, ν4, ν5, ν6, ν7, ν8]
                    refine wpAnyH_take (i := 3) (v := .pointer (some ⟨g', k * 11 + 1, none⟩)) rfl (by kernel_rfl) (by kernel_rfl) (by kernel_rfl) (fun _ _ _ h => h) (Or.inl ⟨by rfl, ?_⟩) hHeld ?_
                    · intro w' hSw; go_simp
                    try simp only [ν1, ν2, ν3, ν4, ν5, ν6, ν7, ν8]
                    refine wpAnyH_take (i := 4) (v := .string ⟨y.attr.toArray⟩) rfl (by kernel_rfl) (by kernel_rfl) (by kernel_rfl) (fun _ _ _ h => h) (Or.inl ⟨by rfl, ?_⟩) hHeld ?_
                    · intro w' hSw; obtain ⟨k0, k1, k2, k3, k4, k5, k6, k7, k8, k9, k10⟩ := item_cells (Hit.out.agree (.below hSw (Nat.le_refl _)) (Nat.zero_le _) Hbl.out); go_simp
                    try simp only [ν1, ν2, ν3, ν4, ν5, ν6, ν7, ν8]
                    refine wpAnyH_take (i := 5) (v := .pointer (some ⟨bx, 1, none⟩)) rfl (by kernel_rfl) (by kernel_rfl) (by kernel_rfl) (fun _ _ _ h => h) (Or.inl ⟨by rfl, ?_⟩) hHeld ?_
                    · intro w' hSw; go_simp
                    try simp only [ν1, ν2, ν3, ν4, ν5, ν6, ν7, ν8]
                    refine wpAnyH_take (i := 6) (v := .string ⟨x.attr.toArray⟩) rfl (by kernel_rfl) (by kernel_rfl) (by kernel_rfl) (fun _ _ _ h => h) (Or.inl ⟨by rfl, ?_⟩) hHeld ?_
                    · intro w' hSw; obtain ⟨k0, k1, k2, k3, k4, k5, k6, k7, k8, k9, k10⟩ := item_cells (Hb.out.below hSw Hb.out.lt).cells; simp only [Nat.zero_add] at k1 k2; go_simp
                    try simp only [ν1, ν2, ν3, ν4, ν5, ν6, ν7, ν8]
                    refine wpAnyH_take (i := 7) (v := .bool true) rfl (by kernel_rfl) (by kernel_rfl) (by kernel_rfl) (fun _ _ _ h => h) (Or.inl ⟨by rfl, ?_⟩) hHeld ?_
                    · intro w' hSw; have kq := hq1; go_simp
                    try simp only [ν1, ν2, ν3, ν4, ν5, ν6, ν7, ν8]
                    refine wpAnyH_take (i := 8) (v := .bool true) rfl (by kernel_rfl) (by kernel_rfl) (by kernel_rfl) (fun _ _ _ h => h) (Or.inl ⟨by rfl, ?_⟩) hHeld ?_
                    · intro w' hSw; go_simp
                    try simp only [ν1, ν2, ν3, ν4, ν5, ν6, ν7, ν8]
                    refine wpAnyH_take (i := 9) (v := .slice (some ⟨g', 0, none⟩) np c2) rfl (by kernel_rfl) (by kernel_rfl) (by kernel_rfl) (fun _ _ _ h => h) (Or.inl ⟨by rfl, ?_⟩) hHeld ?_
                    · intro w' hSw; go_simp
                    try simp only [ν1, ν2, ν3, ν4, ν5, ν6, ν7, ν8]
                    refine wpAnyH_take (i := 10) (v := .int .i64 ((k : Int))) rfl (by kernel_rfl) (by kernel_rfl) (by kernel_rfl) (fun _ _ _ h => h) (Or.inl ⟨by rfl, ?_⟩) hHeld ?_
                    · intro w' hSw; go_simp
                    try simp only [ν1, ν2, ν3, ν4, ν5, ν6, ν7, ν8]
                    refine wpAnyH_take (i := 11) (v := .pointer (some ⟨g', k * 11, none⟩)) rfl (by kernel_rfl) (by kernel_rfl) (by kernel_rfl) (fun _ _ _ h => h) (Or.inl ⟨by rfl, ?_⟩) hHeld ?_
                    · intro w' hSw; go_simp
                    try simp only [ν1, ν2, ν3, ν4, ν5, ν6, ν7, ν8]
                    refine wpAnyH_take (i := 12) (v := .pointer (some ⟨g', k * 11 + 2, none⟩)) rfl (by kernel_rfl) (by kernel_rfl) (by kernel_rfl) (fun _ _ _ h => h) (Or.inl ⟨by rfl, ?_⟩) hHeld ?_
                    · intro w' hSw; go_simp
                    try simp only [ν1, ν2, ν3, ν4, ν5, ν6, ν7, ν8]
                    refine wpAnyH_take (i := 13) (v := .bool y.back) rfl (by kernel_rfl) (by kernel_rfl) (by kernel_rfl) (fun _ _ _ h => h) (Or.inl ⟨by rfl, ?_⟩) hHeld ?_
                    · intro w' hSw; obtain ⟨k0, k1, k2, k3, k4, k5, k6, k7, k8, k9, k10⟩ := item_cells (Hit.out.agree (.below hSw (Nat.le_refl _)) (Nat.zero_le _) Hbl.out); go_simp
                    try simp only [ν1, ν2, ν3, ν4, ν5, ν6, ν7, ν8]
                    refine wpAnyH_take (i := 14) (v := .pointer (some ⟨bx, 2, none⟩)) rfl (by kernel_rfl) (by kernel_rfl) (by kernel_rfl) (fun _ _ _ h => h) (Or.inl ⟨by rfl, ?_⟩) hHeld ?_
                    · intro w' hSw; go_simp
                    try simp only [ν1, ν2, ν3, ν4, ν5, ν6, ν7, ν8]
                    refine wpAnyH_take (i := 15) (v := .bool x.back) rfl (by kernel_rfl) (by kernel_rfl) (by kernel_rfl) (fun _ _ _ h => h) (Or.inl ⟨by rfl, ?_⟩) hHeld ?_
                    · intro w' hSw; obtain ⟨k0, k1, k2, k3, k4, k5, k6, k7, k8, k9, k10⟩ := item_cells (Hb.out.below hSw Hb.out.lt).cells; simp only [Nat.zero_add] at k1 k2; go_simp
                    try simp only [ν1, ν2, ν3, ν4, ν5, ν6, ν7, ν8]
                    refine wpAnyH_take (i := 16) (v := .bool true) rfl (by kernel_rfl) (by kernel_rfl) (by kernel_rfl) (fun _ _ _ h => h) (Or.inl ⟨by rfl, ?_⟩) hHeld ?_
                    · intro w' hSw; have kq := hq2; go_simp
                    try simp only [ν1, ν2, ν3, ν4, ν5, ν6, ν7, ν8]
                    refine wpAnyH_take (i := 17) (v := .bool true) rfl (by kernel_rfl) (by kernel_rfl) (by kernel_rfl) (fun _ _ _ h => h) (Or.inl ⟨by rfl, ?_⟩) hHeld ?_
                    · intro w' hSw; go_simp
                    try simp only [ν1, ν2, ν3, ν4, ν5, ν6, ν7, ν8]
                    refine wpAnyH_take (i := 18) (v := .bool true) rfl (by kernel_rfl) (by kernel_rfl) (by kernel_rfl) (fun _ _ _ h => h) (Or.inl ⟨by rfl, ?_⟩) hHeld ?_
                    · intro w' hSw; go_simp
                    try simp only [ν1, ν2, ν3, ν4, ν5, ν6, ν7, ν8]
                    refine wpAnyH_take (i := 19) (v := .slice (some ⟨g', 0, none⟩) np c2) rfl (by kernel_rfl) (by kernel_rfl) (by kernel_rfl) (fun _ _ _ h => h) (Or.inl ⟨by rfl, ?_⟩) hHeld ?_
                    · intro w' hSw; go_simp
                    try simp only [ν1, ν2, ν3, ν4, ν5, ν6, ν7, ν8]
                    refine wpAnyH_take (i := 20) (v := .int .i64 ((k : Int))) rfl (by kernel_rfl) (by kernel_rfl) (by kernel_rfl) (fun _ _ _ h => h) (Or.inl ⟨by rfl, ?_⟩) hHeld ?_
                    · intro w' hSw; go_simp
                    try simp only [ν1, ν2, ν3, ν4, ν5, ν6, ν7, ν8]
                    refine wpAnyH_take (i := 21) (v := .pointer (some ⟨g', k * 11, none⟩)) rfl (by kernel_rfl) (by kernel_rfl) (by kernel_rfl) (fun _ _ _ h => h) (Or.inl ⟨by rfl, ?_⟩) hHeld ?_
                    · intro w' hSw; go_simp
                    try simp only [ν1, ν2, ν3, ν4, ν5, ν6, ν7, ν8]
                    refine wpAnyH_take (i := 22) (v := .pointer (some ⟨g', k * 11, none⟩)) rfl (by kernel_rfl) (by kernel_rfl) (by kernel_rfl) (fun _ _ _ h => h) (Or.inl ⟨by rfl, ?_⟩) hHeld ?_
                    · intro w' hSw; go_simp
                    try simp only [ν1, ν2, ν3, ν4, ν5, ν6, ν7, ν8]
                    refine wpAnyH_take (i := 23) (v := .bool true) rfl (by kernel_rfl) (by kernel_rfl) (by kernel_rfl) (fun _ _ _ h => h) (Or.inl ⟨by rfl, ?_⟩) hHeld ?_
                    · intro w' hSw; obtain ⟨k0, k1, k2, k3, k4, k5, k6, k7, k8, k9, k10⟩ := item_cells (Hit.out.agree (.below hSw (Nat.le_refl _)) (Nat.zero_le _) Hbl.out); go_simp
                    try simp only [ν1, ν2, ν3, ν4, ν5, ν6, ν7, ν8]
                    refine wpAnyH_take (i := 24) (v := .bool false) rfl (by kernel_rfl) (by kernel_rfl) (by kernel_rfl) (fun _ _ _ h => h) (Or.inl ⟨by rfl, ?_⟩) hHeld ?_
                    · intro w' hSw; go_simp
                    try simp only [ν1, ν2, ν3, ν4, ν5, ν6, ν7, ν8]
                    refine wpAnyH_take (i := 25) (v := .bool false) rfl (by kernel_rfl) (by kernel_rfl) (by kernel_rfl) (fun _ _ _ h => h) (Or.inl ⟨by rfl, ?_⟩) hHeld ?_
                    · intro w' hSw; go_simp
                    try simp only [ν1, ν2, ν3, ν4, ν5, ν6, ν7, ν8]
                    refine wpAnyH_done (by kernel_rfl) ?_ _
                    have hB3 := hHeld
                    clear hHeld
                    have HB3 := Lib.hid (HB.out.trans (hB3.mono (show w1.heap.size ≤ wo.heap.size by omega)))
                    have Ho3 := Lib.hid (Own.kept Ho.out hB3)
                    rw [Hs.out] at Ho3
                    clear hB3
                    go_wp2_with fail
                    go_roundw
                    case rel => exact ⟨k + 1, by omega, by go_num, HB3.out, Ho3.out⟩
                    case measure => simp [intOf]; omega
                  | false =>
                    have Hh : Hid (lessH x (y, yp, yc) = ({ y with rc := y.rc - 1 }, yp, yc)) := Lib.hid (by unfold lessH less1; rw [if_pos ⟨ha, hb, Hyw.out.symm⟩])
                    obtain ⟨hr1, hr2⟩ := Hrcf.out rfl
                    have hw63 : IntKind.i64.wrap (y.rc - 1) = y.rc - 1 := wrapIn (by omega) (by omega)
                    clear ha hb
                    go_upto_region 11 with fail
                    refine wp_region_held_drew (S := fun w' => Below wo.heap.size wo w') (by kernel_rfl) (Below.refl _ _).drew (fun hHeld => ?_)
                    refine wpAnyH_take (i := 0) (v := .slice (some ⟨g', 0, none⟩) np c2) rfl (by kernel_rfl) (by kernel_rfl) (by kernel_rfl) (fun _ _ _ h => h) (Or.inl ⟨by rfl, ?_⟩) hHeld ?_
                    · intro w' hSw; go_simp
                    try simp only [ν1, ν2, ν3, ν4, ν5, ν6, ν7, ν8]
                    refine wpAnyH_take (i := 1) (v := .int .i64 ((k : Int))) rfl (by kernel_rfl) (by kernel_rfl) (by kernel_rfl) (fun _ _ _ h => h) (Or.inl ⟨by rfl, ?_⟩) hHeld ?_
                    · intro w' hSw; go_simp
                    try simp only [ν1, ν2, ν3, ν4, ν5, ν6, ν7, ν8]
                    refine wpAnyH_take (i := 2) (v := .pointer (some ⟨g', k * 11, none⟩)) rfl (by kernel_rfl) (by kernel_rfl) (by kernel_rfl) (fun _ _ _ h => h) (Or.inl ⟨by rfl, ?_⟩) hHeld ?_
                    · intro w' hSw; go_simp
                    try simp only [ν1, ν2, ν3, ν4, ν5, ν6, ν7, ν8]
                    refine wpAnyH_take (i := 3) (v := .pointer (some ⟨g', k * 11 + 1, none⟩)) rfl (by kernel_rfl) (by kernel_rfl) (by kernel_rfl) (fun _ _ _ h => h) (Or.inl ⟨by rfl, ?_⟩) hHeld ?_
                    · intro w' hSw; go_simp
                    try simp only [ν1, ν2, ν3, ν4, ν5, ν6, ν7, ν8]
                    refine wpAnyH_take (i := 4) (v := .string ⟨y.attr.toArray⟩) rfl (by kernel_rfl) (by kernel_rfl) (by kernel_rfl) (fun _ _ _ h => h) (Or.inl ⟨by rfl, ?_⟩) hHeld ?_
                    · intro w' hSw; obtain ⟨k0, k1, k2, k3, k4, k5, k6, k7, k8, k9, k10⟩ := item_cells (Hit.out.agree (.below hSw (Nat.le_refl _)) (Nat.zero_le _) Hbl.out); go_simp
                    try simp only [ν1, ν2, ν3, ν4, ν5, ν6, ν7, ν8]
                    refine wpAnyH_take (i := 5) (v := .pointer (some ⟨bx, 1, none⟩)) rfl (by kernel_rfl) (by kernel_rfl) (by kernel_rfl) (fun _ _ _ h => h) (Or.inl ⟨by rfl, ?_⟩) hHeld ?_
                    · intro w' hSw; go_simp
                    try simp only [ν1, ν2, ν3, ν4, ν5, ν6, ν7, ν8]
                    refine wpAnyH_take (i := 6) (v := .string ⟨x.attr.toArray⟩) rfl (by kernel_rfl) (by kernel_rfl) (by kernel_rfl) (fun _ _ _ h => h) (Or.inl ⟨by rfl, ?_⟩) hHeld ?_
                    · intro w' hSw; obtain ⟨k0, k1, k2, k3, k4, k5, k6, k7, k8, k9, k10⟩ := item_cells (Hb.out.below hSw Hb.out.lt).cells; simp only [Nat.zero_add] at k1 k2; go_simp
                    try simp only [ν1, ν2, ν3, ν4, ν5, ν6, ν7, ν8]
                    refine wpAnyH_take (i := 7) (v := .bool true) rfl (by kernel_rfl) (by kernel_rfl) (by kernel_rfl) (fun _ _ _ h => h) (Or.inl ⟨by rfl, ?_⟩) hHeld ?_
                    · intro w' hSw; have kq := hq1; go_simp
                    try simp only [ν1, ν2, ν3, ν4, ν5, ν6, ν7, ν8]
                    refine wpAnyH_take (i := 8) (v := .bool true) rfl (by kernel_rfl) (by kernel_rfl) (by kernel_rfl) (fun _ _ _ h => h) (Or.inl ⟨by rfl, ?_⟩) hHeld ?_
                    · intro w' hSw; go_simp
                    try simp only [ν1, ν2, ν3, ν4, ν5, ν6, ν7, ν8]
                    refine wpAnyH_take (i := 9) (v := .slice (some ⟨g', 0, none⟩) np c2) rfl (by kernel_rfl) (by kernel_rfl) (by kernel_rfl) (fun _ _ _ h => h) (Or.inl ⟨by rfl, ?_⟩) hHeld ?_
                    · intro w' hSw; go_simp
                    try simp only [ν1, ν2, ν3, ν4, ν5, ν6, ν7, ν8]
                    refine wpAnyH_take (i := 10) (v := .int .i64 ((k : Int))) rfl (by kernel_rfl) (by kernel_rfl) (by kernel_rfl) (fun _ _ _ h => h) (Or.inl ⟨by rfl, ?_⟩) hHeld ?_
                    · intro w' hSw; go_simp
                    try simp only [ν1, ν2, ν3, ν4, ν5, ν6, ν7, ν8]
                    refine wpAnyH_take (i := 11) (v := .pointer (some ⟨g', k * 11, none⟩)) rfl (by kernel_rfl) (by kernel_rfl) (by kernel_rfl) (fun _ _ _ h => h) (Or.inl ⟨by rfl, ?_⟩) hHeld ?_
                    · intro w' hSw; go_simp
                    try simp only [ν1, ν2, ν3, ν4, ν5, ν6, ν7, ν8]
                    refine wpAnyH_take (i := 12) (v := .pointer (some ⟨g', k * 11 + 2, none⟩)) rfl (by kernel_rfl) (by kernel_rfl) (by kernel_rfl) (fun _ _ _ h => h) (Or.inl ⟨by rfl, ?_⟩) hHeld ?_
                    · intro w' hSw; go_simp
                    try simp only [ν1, ν2, ν3, ν4, ν5, ν6, ν7, ν8]
                    refine wpAnyH_take (i := 13) (v := .bool y.back) rfl (by kernel_rfl) (by kernel_rfl) (by kernel_rfl) (fun _ _ _ h => h) (Or.inl ⟨by rfl, ?_⟩) hHeld ?_
                    · intro w' hSw; obtain ⟨k0, k1, k2, k3, k4, k5, k6, k7, k8, k9, k10⟩ := item_cells (Hit.out.agree (.below hSw (Nat.le_refl _)) (Nat.zero_le _) Hbl.out); go_simp
                    try simp only [ν1, ν2, ν3, ν4, ν5, ν6, ν7, ν8]
                    refine wpAnyH_take (i := 14) (v := .pointer (some ⟨bx, 2, none⟩)) rfl (by kernel_rfl) (by kernel_rfl) (by kernel_rfl) (fun _ _ _ h => h) (Or.inl ⟨by rfl, ?_⟩) hHeld ?_
                    · intro w' hSw; go_simp
                    try simp only [ν1, ν2, ν3, ν4, ν5, ν6, ν7, ν8]
                    refine wpAnyH_take (i := 15) (v := .bool x.back) rfl (by kernel_rfl) (by kernel_rfl) (by kernel_rfl) (fun _ _ _ h => h) (Or.inl ⟨by rfl, ?_⟩) hHeld ?_
                    · intro w' hSw; obtain ⟨k0, k1, k2, k3, k4, k5, k6, k7, k8, k9, k10⟩ := item_cells (Hb.out.below hSw Hb.out.lt).cells; simp only [Nat.zero_add] at k1 k2; go_simp
                    try simp only [ν1, ν2, ν3, ν4, ν5, ν6, ν7, ν8]
                    refine wpAnyH_take (i := 16) (v := .bool true) rfl (by kernel_rfl) (by kernel_rfl) (by kernel_rfl) (fun _ _ _ h => h) (Or.inl ⟨by rfl, ?_⟩) hHeld ?_
                    · intro w' hSw; have kq := hq2; go_simp
                    try simp only [ν1, ν2, ν3, ν4, ν5, ν6, ν7, ν8]
                    refine wpAnyH_take (i := 17) (v := .bool true) rfl (by kernel_rfl) (by kernel_rfl) (by kernel_rfl) (fun _ _ _ h => h) (Or.inl ⟨by rfl, ?_⟩) hHeld ?_
                    · intro w' hSw; go_simp
                    try simp only [ν1, ν2, ν3, ν4, ν5, ν6, ν7, ν8]
                    refine wpAnyH_take (i := 18) (v := .bool true) rfl (by kernel_rfl) (by kernel_rfl) (by kernel_rfl) (fun _ _ _ h => h) (Or.inl ⟨by rfl, ?_⟩) hHeld ?_
                    · intro w' hSw; go_simp
                    try simp only [ν1, ν2, ν3, ν4, ν5, ν6, ν7, ν8]
                    refine wpAnyH_take (i := 19) (v := .slice (some ⟨g', 0, none⟩) np c2) rfl (by kernel_rfl) (by kernel_rfl) (by kernel_rfl) (fun _ _ _ h => h) (Or.inl ⟨by rfl, ?_⟩) hHeld ?_
                    · intro w' hSw; go_simp
                    try simp only [ν1, ν2, ν3, ν4, ν5, ν6, ν7, ν8]
                    refine wpAnyH_take (i := 20) (v := .int .i64 ((k : Int))) rfl (by kernel_rfl) (by kernel_rfl) (by kernel_rfl) (fun _ _ _ h => h) (Or.inl ⟨by rfl, ?_⟩) hHeld ?_
                    · intro w' hSw; go_simp
                    try simp only [ν1, ν2, ν3, ν4, ν5, ν6, ν7, ν8]
                    refine wpAnyH_take (i := 21) (v := .pointer (some ⟨g', k * 11, none⟩)) rfl (by kernel_rfl) (by kernel_rfl) (by kernel_rfl) (fun _ _ _ h => h) (Or.inl ⟨by rfl, ?_⟩) hHeld ?_
                    · intro w' hSw; go_simp
                    try simp only [ν1, ν2, ν3, ν4, ν5, ν6, ν7, ν8]
                    refine wpAnyH_take (i := 22) (v := .pointer (some ⟨g', k * 11, none⟩)) rfl (by kernel_rfl) (by kernel_rfl) (by kernel_rfl) (fun _ _ _ h => h) (Or.inl ⟨by rfl, ?_⟩) hHeld ?_
                    · intro w' hSw; go_simp
                    try simp only [ν1, ν2, ν3, ν4, ν5, ν6, ν7, ν8]
                    refine wpAnyH_take (i := 23) (v := .bool false) rfl (by kernel_rfl) (by kernel_rfl) (by kernel_rfl) (fun _ _ _ h => h) (Or.inl ⟨by rfl, ?_⟩) hHeld ?_
                    · intro w' hSw; obtain ⟨k0, k1, k2, k3, k4, k5, k6, k7, k8, k9, k10⟩ := item_cells (Hit.out.agree (.below hSw (Nat.le_refl _)) (Nat.zero_le _) Hbl.out); go_simp
                    try simp only [ν1, ν2, ν3, ν4, ν5, ν6, ν7, ν8]
                    refine wpAnyH_take (i := 24) (v := .bool true) rfl (by kernel_rfl) (by kernel_rfl) (by kernel_rfl) (fun _ _ _ h => h) (Or.inl ⟨by rfl, ?_⟩) hHeld ?_
                    · intro w' hSw; go_simp
                    try simp only [ν1, ν2, ν3, ν4, ν5, ν6, ν7, ν8]
                    refine wpAnyH_take (i := 25) (v := .bool true) rfl (by kernel_rfl) (by kernel_rfl) (by kernel_rfl) (fun _ _ _ h => h) (Or.inl ⟨by rfl, ?_⟩) hHeld ?_
                    · intro w' hSw; go_simp
                    try simp only [ν1, ν2, ν3, ν4, ν5, ν6, ν7, ν8]
                    refine wpAnyH_done (by kernel_rfl) ?_ _
                    have hB3 := hHeld
                    clear hHeld
                    generalize wo.drew = wq at *
                    obtain ⟨z0, z1, z2, z3, z4, z5, z6, z7, z8, z9, z10⟩ := item_cells (Hit.out.agree (.below hB3 (Nat.le_refl _)) (Nat.zero_le _) Hbl.out)
                    have yfq : wq.frozen? ⟨g', k * 11 + 10, none⟩ = false := by
                      obtain ⟨g2, c2', e4, -, -, -, -, -, h6⟩ := Own.form (Own.kept Ho.out hB3) (List.ne_nil_of_length_pos (by have := Hkl.out; omega))
                      injection e4 with e4 _ _
                      injection e4 with e4
                      injection e4 with e4
                      subst e4
                      exact h6 (k * 11 + 10)
                    have hglq : g' < wq.heap.size := by have := hB3.size; omega
                    have ho8 := Own.setPart (o := 10) (u := .int .i64 (y.rc - 1)) IH.len (Own.kept Ho.out hB3) Hkl.out (by decide) ({ y with rc := y.rc - 1 }, yp, yc) (by rw [Hget.out]; rfl)
                    rw [← Hh.out, Hstep.out] at ho8
                    have hB8 := HB.out.trans ((hB3.mono (show w1.heap.size ≤ wo.heap.size by omega)).setCell (p := ⟨g', k * 11 + 10, none⟩) hg1 (.int .i64 (y.rc - 1)))
                    have Ho8 := Lib.hid ho8
                    have HB8 := Lib.hid hB8
                    clear z0 z1 z2 z3 z4 z5 z6 z7 z8 z9 ho8 hB8 hq1 hq2
                    go_wp2_with fail
                    go_roundw
                    case rel => exact ⟨k + 1, by omega, by go_num, HB8.out, Ho8.out⟩
                    case measure => simp [intOf]; omega
                · have hq2 : (y.back == x.back) = false := by simpa using hb
                  have Hs := Lib.hid (Hsame.out (by unfold lessH less1; rw [if_neg]; rintro ⟨-, h, -⟩; exact hb h))
                  clear ha hb
                  go_upto_region 11 with fail
                  refine wp_region_held_drew (S := fun w' => Below wo.heap.size wo w') (by kernel_rfl) (Below.refl _ _).drew (fun hHeld => ?_)
                  refine wpAnyH_take (i := 0) (v := .slice (some ⟨g', 0, none⟩) np c2) rfl (by kernel_rfl) (by kernel_rfl) (by kernel_rfl) (fun _ _ _ h => h) (Or.inl ⟨by rfl, ?_⟩) hHeld ?_
                  · intro w' hSw; go_simp
                  try simp only [ν1, ν2, ν3, ν4, ν5, ν6, ν7, ν8]
                  refine wpAnyH_take (i := 1) (v := .int .i64 ((k : Int))) rfl (by kernel_rfl) (by kernel_rfl) (by kernel_rfl) (fun _ _ _ h => h) (Or.inl ⟨by rfl, ?_⟩) hHeld ?_
                  · intro w' hSw; go_simp
                  try simp only [ν1, ν2, ν3, ν4, ν5, ν6, ν7, ν8]
                  refine wpAnyH_take (i := 2) (v := .pointer (some ⟨g', k * 11, none⟩)) rfl (by kernel_rfl) (by kernel_rfl) (by kernel_rfl) (fun _ _ _ h => h) (Or.inl ⟨by rfl, ?_⟩) hHeld ?_
                  · intro w' hSw; go_simp
                  try simp only [ν1, ν2, ν3, ν4, ν5, ν6, ν7, ν8]
                  refine wpAnyH_take (i := 3) (v := .pointer (some ⟨g', k * 11 + 1, none⟩)) rfl (by kernel_rfl) (by kernel_rfl) (by kernel_rfl) (fun _ _ _ h => h) (Or.inl ⟨by rfl, ?_⟩) hHeld ?_
                  · intro w' hSw; go_simp
                  try simp only [ν1, ν2, ν3, ν4, ν5, ν6, ν7, ν8]
                  refine wpAnyH_take (i := 4) (v := .string ⟨y.attr.toArray⟩) rfl (by kernel_rfl) (by kernel_rfl) (by kernel_rfl) (fun _ _ _ h => h) (Or.inl ⟨by rfl, ?_⟩) hHeld ?_
                  · intro w' hSw; obtain ⟨k0, k1, k2, k3, k4, k5, k6, k7, k8, k9, k10⟩ := item_cells (Hit.out.agree (.below hSw (Nat.le_refl _)) (Nat.zero_le _) Hbl.out); go_simp
                  try simp only [ν1, ν2, ν3, ν4, ν5, ν6, ν7, ν8]
                  refine wpAnyH_take (i := 5) (v := .pointer (some ⟨bx, 1, none⟩)) rfl (by kernel_rfl) (by kernel_rfl) (by kernel_rfl) (fun _ _ _ h => h) (Or.inl ⟨by rfl, ?_⟩) hHeld ?_
                  · intro w' hSw; go_simp
                  try simp only [ν1, ν2, ν3, ν4, ν5, ν6, ν7, ν8]
                  refine wpAnyH_take (i := 6) (v := .string ⟨x.attr.toArray⟩) rfl (by kernel_rfl) (by kernel_rfl) (by kernel_rfl) (fun _ _ _ h => h) (Or.inl ⟨by rfl, ?_⟩) hHeld ?_
                  · intro w' hSw; obtain ⟨k0, k1, k2, k3, k4, k5, k6, k7, k8, k9, k10⟩ := item_cells (Hb.out.below hSw Hb.out.lt).cells; simp only [Nat.zero_add] at k1 k2; go_simp
                  try simp only [ν1, ν2, ν3, ν4, ν5, ν6, ν7, ν8]
                  refine wpAnyH_take (i := 7) (v := .bool true) rfl (by kernel_rfl) (by kernel_rfl) (by kernel_rfl) (fun _ _ _ h => h) (Or.inl ⟨by rfl, ?_⟩) hHeld ?_
                  · intro w' hSw; have kq := hq1; go_simp
                  try simp only [ν1, ν2, ν3, ν4, ν5, ν6, ν7, ν8]
                  refine wpAnyH_take (i := 8) (v := .bool true) rfl (by kernel_rfl) (by kernel_rfl) (by kernel_rfl) (fun _ _ _ h => h) (Or.inl ⟨by rfl, ?_⟩) hHeld ?_
                  · intro w' hSw; go_simp
                  try simp only [ν1, ν2, ν3, ν4, ν5, ν6, ν7, ν8]
                  refine wpAnyH_take (i := 9) (v := .slice (some ⟨g', 0, none⟩) np c2) rfl (by kernel_rfl) (by kernel_rfl) (by kernel_rfl) (fun _ _ _ h => h) (Or.inl ⟨by rfl, ?_⟩) hHeld ?_
                  · intro w' hSw; go_simp
                  try simp only [ν1, ν2, ν3, ν4, ν5, ν6, ν7, ν8]
                  refine wpAnyH_take (i := 10) (v := .int .i64 ((k : Int))) rfl (by kernel_rfl) (by kernel_rfl) (by kernel_rfl) (fun _ _ _ h => h) (Or.inl ⟨by rfl, ?_⟩) hHeld ?_
                  · intro w' hSw; go_simp
                  try simp only [ν1, ν2, ν3, ν4, ν5, ν6, ν7, ν8]
                  refine wpAnyH_take (i := 11) (v := .pointer (some ⟨g', k * 11, none⟩)) rfl (by kernel_rfl) (by kernel_rfl) (by kernel_rfl) (fun _ _ _ h => h) (Or.inl ⟨by rfl, ?_⟩) hHeld ?_
                  · intro w' hSw; go_simp
                  try simp only [ν1, ν2, ν3, ν4, ν5, ν6, ν7, ν8]
                  refine wpAnyH_take (i := 12) (v := .pointer (some ⟨g', k * 11 + 2, none⟩)) rfl (by kernel_rfl) (by kernel_rfl) (by kernel_rfl) (fun _ _ _ h => h) (Or.inl ⟨by rfl, ?_⟩) hHeld ?_
                  · intro w' hSw; go_simp
                  try simp only [ν1, ν2, ν3, ν4, ν5, ν6, ν7, ν8]
                  refine wpAnyH_take (i := 13) (v := .bool y.back) rfl (by kernel_rfl) (by kernel_rfl) (by kernel_rfl) (fun _ _ _ h => h) (Or.inl ⟨by rfl, ?_⟩) hHeld ?_
                  · intro w' hSw; obtain ⟨k0, k1, k2, k3, k4, k5, k6, k7, k8, k9, k10⟩ := item_cells (Hit.out.agree (.below hSw (Nat.le_refl _)) (Nat.zero_le _) Hbl.out); go_simp
                  try simp only [ν1, ν2, ν3, ν4, ν5, ν6, ν7, ν8]
                  refine wpAnyH_take (i := 14) (v := .pointer (some ⟨bx, 2, none⟩)) rfl (by kernel_rfl) (by kernel_rfl) (by kernel_rfl) (fun _ _ _ h => h) (Or.inl ⟨by rfl, ?_⟩) hHeld ?_
                  · intro w' hSw; go_simp
                  try simp only [ν1, ν2, ν3, ν4, ν5, ν6, ν7, ν8]
                  refine wpAnyH_take (i := 15) (v := .bool x.back) rfl (by kernel_rfl) (by kernel_rfl) (by kernel_rfl) (fun _ _ _ h => h) (Or.inl ⟨by rfl, ?_⟩) hHeld ?_
                  · intro w' hSw; obtain ⟨k0, k1, k2, k3, k4, k5, k6, k7, k8, k9, k10⟩ := item_cells (Hb.out.below hSw Hb.out.lt).cells; simp only [Nat.zero_add] at k1 k2; go_simp
                  try simp only [ν1, ν2, ν3, ν4, ν5, ν6, ν7, ν8]
                  refine wpAnyH_take (i := 16) (v := .bool false) rfl (by kernel_rfl) (by kernel_rfl) (by kernel_rfl) (fun _ _ _ h => h) (Or.inl ⟨by rfl, ?_⟩) hHeld ?_
                  · intro w' hSw; have kq := hq2; go_simp
                  try simp only [ν1, ν2, ν3, ν4, ν5, ν6, ν7, ν8]
                  refine wpAnyH_take (i := 17) (v := .bool false) rfl (by kernel_rfl) (by kernel_rfl) (by kernel_rfl) (fun _ _ _ h => h) (Or.inl ⟨by rfl, ?_⟩) hHeld ?_
                  · intro w' hSw; go_simp
                  try simp only [ν1, ν2, ν3, ν4, ν5, ν6, ν7, ν8]
                  refine wpAnyH_take (i := 18) (v := .bool false) rfl (by kernel_rfl) (by kernel_rfl) (by kernel_rfl) (fun _ _ _ h => h) (Or.inl ⟨by rfl, ?_⟩) hHeld ?_
                  · intro w' hSw; go_simp
                  try simp only [ν1, ν2, ν3, ν4, ν5, ν6, ν7, ν8]
                  refine wpAnyH_take (i := 19) (v := undef) rfl (by kernel_rfl) (by kernel_rfl) (by kernel_rfl) (fun _ _ _ h => h) (Or.inr ⟨by kernel_rfl, rfl⟩) hHeld ?_
                  try simp only [ν1, ν2, ν3, ν4, ν5, ν6, ν7, ν8]
                  refine wpAnyH_take (i := 20) (v := undef) rfl (by kernel_rfl) (by kernel_rfl) (by kernel_rfl) (fun _ _ _ h => h) (Or.inr ⟨by kernel_rfl, rfl⟩) hHeld ?_
                  try simp only [ν1, ν2, ν3, ν4, ν5, ν6, ν7, ν8]
                  refine wpAnyH_take (i := 21) (v := undef) rfl (by kernel_rfl) (by kernel_rfl) (by kernel_rfl) (fun _ _ _ h => h) (Or.inr ⟨by kernel_rfl, rfl⟩) hHeld ?_
                  try simp only [ν1, ν2, ν3, ν4, ν5, ν6, ν7, ν8]
                  refine wpAnyH_take (i := 22) (v := undef) rfl (by kernel_rfl) (by kernel_rfl) (by kernel_rfl) (fun _ _ _ h => h) (Or.inr ⟨by kernel_rfl, rfl⟩) hHeld ?_
                  try simp only [ν1, ν2, ν3, ν4, ν5, ν6, ν7, ν8]
                  refine wpAnyH_take (i := 23) (v := undef) rfl (by kernel_rfl) (by kernel_rfl) (by kernel_rfl) (fun _ _ _ h => h) (Or.inr ⟨by kernel_rfl, rfl⟩) hHeld ?_
                  try simp only [ν1, ν2, ν3, ν4, ν5, ν6, ν7, ν8]
                  refine wpAnyH_take (i := 24) (v := undef) rfl (by kernel_rfl) (by kernel_rfl) (by kernel_rfl) (fun _ _ _ h => h) (Or.inr ⟨by kernel_rfl, rfl⟩) hHeld ?_
                  try simp only [ν1, ν2, ν3, ν4, ν5, ν6, ν7, ν8]
                  refine wpAnyH_take (i := 25) (v := .bool false) rfl (by kernel_rfl) (by kernel_rfl) (by kernel_rfl) (fun _ _ _ h => h) (Or.inl ⟨by rfl, ?_⟩) hHeld ?_
                  · intro w' hSw; go_simp
                  try simp only [ν1, ν2, ν3, ν4, ν5, ν6, ν7, ν8]
                  refine wpAnyH_done (by kernel_rfl) ?_ _
                  have hB3 := hHeld
                  clear hHeld
                  have HB3 := Lib.hid (HB.out.trans (hB3.mono (show w1.heap.size ≤ wo.heap.size by omega)))
                  have Ho3 := Lib.hid (Own.kept Ho.out hB3)
                  rw [Hs.out] at Ho3
                  clear hB3
                  go_wp2_with fail
                  go_roundw
                  case rel => exact ⟨k + 1, by omega, by go_num, HB3.out, Ho3.out⟩
                  case measure => simp [intOf]; omega
              · have hq1 : (y.attr == x.attr) = false := by simpa using ha
                have Hs := Lib.hid (Hsame.out (by unfold lessH less1; rw [if_neg]; rintro ⟨h, -, -⟩; exact ha h))
                clear ha
                go_upto_region 11 with fail
                refine wp_region_held_drew (S := fun w' => Below wo.heap.size wo w') (by kernel_rfl) (Below.refl _ _).drew (fun hHeld => ?_)
                refine wpAnyH_take (i := 0) (v := .slice (some ⟨g', 0, none⟩) np c2) rfl (by kernel_rfl) (by kernel_rfl) (by kernel_rfl) (fun _ _ _ h => h) (Or.inl ⟨by rfl, ?_⟩) hHeld ?_
                · intro w' hSw; go_simp
                try simp only [ν1, ν2, ν3, ν4, ν5, ν6, ν7, ν8]
                refine wpAnyH_take (i := 1) (v := .int .i64 ((k : Int))) rfl (by kernel_rfl) (by kernel_rfl) (by kernel_rfl) (fun _ _ _ h => h) (Or.inl ⟨by rfl, ?_⟩) hHeld ?_
                · intro w' hSw; go_simp
                try simp only [ν1, ν2, ν3, ν4, ν5, ν6, ν7, ν8]
                refine wpAnyH_take (i := 2) (v := .pointer (some ⟨g', k * 11, none⟩)) rfl (by kernel_rfl) (by kernel_rfl) (by kernel_rfl) (fun _ _ _ h => h) (Or.inl ⟨by rfl, ?_⟩) hHeld ?_
                · intro w' hSw; go_simp
                try simp only [ν1, ν2, ν3, ν4, ν5, ν6, ν7, ν8]
                refine wpAnyH_take (i := 3) (v := .pointer (some ⟨g', k * 11 + 1, none⟩)) rfl (by kernel_rfl) (by kernel_rfl) (by kernel_rfl) (fun _ _ _ h => h) (Or.inl ⟨by rfl, ?_⟩) hHeld ?_
                · intro w' hSw; go_simp
                try simp only [ν1, ν2, ν3, ν4, ν5, ν6, ν7, ν8]
                refine wpAnyH_take (i := 4) (v := .string ⟨y.attr.toArray⟩) rfl (by kernel_rfl) (by kernel_rfl) (by kernel_rfl) (fun _ _ _ h => h) (Or.inl ⟨by rfl, ?_⟩) hHeld ?_
                · intro w' hSw; obtain ⟨k0, k1, k2, k3, k4, k5, k6, k7, k8, k9, k10⟩ := item_cells (Hit.out.agree (.below hSw (Nat.le_refl _)) (Nat.zero_le _) Hbl.out); go_simp
                try simp only [ν1, ν2, ν3, ν4, ν5, ν6, ν7, ν8]
                refine wpAnyH_take (i := 5) (v := .pointer (some ⟨bx, 1, none⟩)) rfl (by kernel_rfl) (by kernel_rfl) (by kernel_rfl) (fun _ _ _ h => h) (Or.inl ⟨by rfl, ?_⟩) hHeld ?_
                · intro w' hSw; go_simp
                try simp only [ν1, ν2, ν3, ν4, ν5, ν6, ν7, ν8]
                refine wpAnyH_take (i := 6) (v := .string ⟨x.attr.toArray⟩) rfl (by kernel_rfl) (by kernel_rfl) (by kernel_rfl) (fun _ _ _ h => h) (Or.inl ⟨by rfl, ?_⟩) hHeld ?_
                · intro w' hSw; obtain ⟨k0, k1, k2, k3, k4, k5, k6, k7, k8, k9, k10⟩ := item_cells (Hb.out.below hSw Hb.out.lt).cells; simp only [Nat.zero_add] at k1 k2; go_simp
                try simp only [ν1, ν2, ν3, ν4, ν5, ν6, ν7, ν8]
                refine wpAnyH_take (i := 7) (v := .bool false) rfl (by kernel_rfl) (by kernel_rfl) (by kernel_rfl) (fun _ _ _ h => h) (Or.inl ⟨by rfl, ?_⟩) hHeld ?_
                · intro w' hSw; have kq := hq1; go_simp
                try simp only [ν1, ν2, ν3, ν4, ν5, ν6, ν7, ν8]
                refine wpAnyH_take (i := 8) (v := .bool false) rfl (by kernel_rfl) (by kernel_rfl) (by kernel_rfl) (fun _ _ _ h => h) (Or.inl ⟨by rfl, ?_⟩) hHeld ?_
                · intro w' hSw; go_simp
                try simp only [ν1, ν2, ν3, ν4, ν5, ν6, ν7, ν8]
                refine wpAnyH_take (i := 9) (v := undef) rfl (by kernel_rfl) (by kernel_rfl) (by kernel_rfl) (fun _ _ _ h => h) (Or.inr ⟨by kernel_rfl, rfl⟩) hHeld ?_
                try simp only [ν1, ν2, ν3, ν4, ν5, ν6, ν7, ν8]
                refine wpAnyH_take (i := 10) (v := undef) rfl (by kernel_rfl) (by kernel_rfl) (by kernel_rfl) (fun _ _ _ h => h) (Or.inr ⟨by kernel_rfl, rfl⟩) hHeld ?_
                try simp only [ν1, ν2, ν3, ν4, ν5, ν6, ν7, ν8]
                refine wpAnyH_take (i := 11) (v := undef) rfl (by kernel_rfl) (by kernel_rfl) (by kernel_rfl) (fun _ _ _ h => h) (Or.inr ⟨by kernel_rfl, rfl⟩) hHeld ?_
                try simp only [ν1, ν2, ν3, ν4, ν5, ν6, ν7, ν8]
                refine wpAnyH_take (i := 12) (v := undef) rfl (by kernel_rfl) (by kernel_rfl) (by kernel_rfl) (fun _ _ _ h => h) (Or.inr ⟨by kernel_rfl, rfl⟩) hHeld ?_
                try simp only [ν1, ν2, ν3, ν4, ν5, ν6, ν7, ν8]
                refine wpAnyH_take (i := 13) (v := undef) rfl (by kernel_rfl) (by kernel_rfl) (by kernel_rfl) (fun _ _ _ h => h) (Or.inr ⟨by kernel_rfl, rfl⟩) hHeld ?_
                try simp only [ν1, ν2, ν3, ν4, ν5, ν6, ν7, ν8]
                refine wpAnyH_take (i := 14) (v := undef) rfl (by kernel_rfl) (by kernel_rfl) (by kernel_rfl) (fun _ _ _ h => h) (Or.inr ⟨by kernel_rfl, rfl⟩) hHeld ?_
                try simp only [ν1, ν2, ν3, ν4, ν5, ν6, ν7, ν8]
                refine wpAnyH_take (i := 15) (v := undef) rfl (by kernel_rfl) (by kernel_rfl) (by kernel_rfl) (fun _ _ _ h => h) (Or.inr ⟨by kernel_rfl, rfl⟩) hHeld ?_
                try simp only [ν1, ν2, ν3, ν4, ν5, ν6, ν7, ν8]
                refine wpAnyH_take (i := 16) (v := undef) rfl (by kernel_rfl) (by kernel_rfl) (by kernel_rfl) (fun _ _ _ h => h) (Or.inr ⟨by kernel_rfl, rfl⟩) hHeld ?_
                try simp only [ν1, ν2, ν3, ν4, ν5, ν6, ν7, ν8]
                refine wpAnyH_take (i := 17) (v := .bool false) rfl (by kernel_rfl) (by kernel_rfl) (by kernel_rfl) (fun _ _ _ h => h) (Or.inl ⟨by rfl, ?_⟩) hHeld ?_
                · intro w' hSw; go_simp
                try simp only [ν1, ν2, ν3, ν4, ν5, ν6, ν7, ν8]
                refine wpAnyH_take (i := 18) (v := .bool false) rfl (by kernel_rfl) (by kernel_rfl) (by kernel_rfl) (fun _ _ _ h => h) (Or.inl ⟨by rfl, ?_⟩) hHeld ?_
                · intro w' hSw; go_simp
                try simp only [ν1, ν2, ν3, ν4, ν5, ν6, ν7, ν8]
                refine wpAnyH_take (i := 19) (v := undef) rfl (by kernel_rfl) (by kernel_rfl) (by kernel_rfl) (fun _ _ _ h => h) (Or.inr ⟨by kernel_rfl, rfl⟩) hHeld ?_
                try simp only [ν1, ν2, ν3, ν4, ν5, ν6, ν7, ν8]
                refine wpAnyH_take (i := 20) (v := undef) rfl (by kernel_rfl) (by kernel_rfl) (by kernel_rfl) (fun _ _ _ h => h) (Or.inr ⟨by kernel_rfl, rfl⟩) hHeld ?_
                try simp only [ν1, ν2, ν3, ν4, ν5, ν6, ν7, ν8]
                refine wpAnyH_take (i := 21) (v := undef) rfl (by kernel_rfl) (by kernel_rfl) (by kernel_rfl) (fun _ _ _ h => h) (Or.inr ⟨by kernel_rfl, rfl⟩) hHeld ?_
                try simp only [ν1, ν2, ν3, ν4, ν5, ν6, ν7, ν8]
                refine wpAnyH_take (i := 22) (v := undef) rfl (by kernel_rfl) (by kernel_rfl) (by kernel_rfl) (fun _ _ _ h => h) (Or.inr ⟨by kernel_rfl, rfl⟩) hHeld ?_
                try simp only [ν1, ν2, ν3, ν4, ν5, ν6, ν7, ν8]
                refine wpAnyH_take (i := 23) (v := undef) rfl (by kernel_rfl) (by kernel_rfl) (by kernel_rfl) (fun _ _ _ h => h) (Or.inr ⟨by kernel_rfl, rfl⟩) hHeld ?_
                try simp only [ν1, ν2, ν3, ν4, ν5, ν6, ν7, ν8]
                refine wpAnyH_take (i := 24) (v := undef) rfl (by kernel_rfl) (by kernel_rfl) (by kernel_rfl) (fun _ _ _ h => h) (Or.inr ⟨by kernel_rfl, rfl⟩) hHeld ?_
                try simp only [ν1, ν2, ν3, ν4, ν5, ν6, ν7, ν8]
                refine wpAnyH_take (i := 25) (v := .bool false) rfl (by kernel_rfl) (by kernel_rfl) (by kernel_rfl) (fun _ _ _ h => h) (Or.inl ⟨by rfl, ?_⟩) hHeld ?_
                · intro w' hSw; go_simp
                try simp only [ν1, ν2, ν3, ν4, ν5, ν6, ν7, ν8]
                refine wpAnyH_done (by kernel_rfl) ?_ _
                have hB3 := hHeld
                clear hHeld
                have HB3 := Lib.hid (HB.out.trans (hB3.mono (show w1.heap.size ≤ wo.heap.size by omega)))
                have Ho3 := Lib.hid (Own.kept Ho.out hB3)
                rw [Hs.out] at Ho3
                clear hB3
                go_wp2_with fail
                go_roundw
                case rel => exact ⟨k + 1, by omega, by go_num, HB3.out, Ho3.out⟩
                case measure => simp [intOf]; omega
            · have hke : k = np := by omega
              have kkl : ¬ ((k : Nat) : Int) < (np : Int) := by omega
              have hr := HR1.out wo g np c2 D w1.heap.size wo.heap.size (ps.map (lessH x)) (HB2.out.trans (HB.out.mono hz1)) (by rw [Hw2.out, lessH_map]) (lessH_pat x Hp.out (by
                have h := Sl.ofOwn IH.len Ho.out
                rw [List.take_of_length_le (by have := Hnp.out; omega), List.drop_eq_nil_of_le (by have := Hnp.out; omega), List.append_nil] at h
                exact h) (by have := Hbxw.out; omega) ((HO1.out.trans (Below.only (HB20.out))).then (HB.out.mono (show w.heap.size ≤ w1.heap.size by omega)))) (.inr (.inr hz1))
              go_wp2_with fail
              first | exact hr | exact fin hr rfl
end Go.Proofs.Yticbhfmpnmolcaa
end

/- pull's leaf, a tree's contract given. (Printed by pulq.py.) -/
section
set_option linter.unusedVariables false
set_option linter.unusedSimpArgs false
namespace Go.Proofs.Yticbhfmpnmolcaa
open Go.RowKit
set_option linter.unusedVariables false
set_option linter.unusedSimpArgs false
/-- The program's tree, so deep at most. -/
def PTree (d : Nat) : Prop := ∀ (B M hA D lo hi lo2 hi2 : Nat) (lv av : Value) (fs : List Ft) (ats : List Attr) (n e : Int) (ps : List IH) (path : List Int) (v pv : Value) (w : World),
  PulX B M hA w lv av fs ats n → Pat B D lo hi w v ps → Pth B lo2 hi2 w pv path → Fit fs ats d n path → finePat (ps.map (·.1)) = true → ∀ (R : Ending → World → Prop),
  (∀ w' n' a l c, Only (· = B) w w' → Blk w' B [lv, .map (some M), av, .int .i64 n', .bool (decide (10000 < n'))] 49 → TOut d w.heap.size w' n n' (.slice a l c) (treeP fs ats d e (ps.map (·.1)) path) → R (.returned (.slice a l c)) w') →
  Calls Try.prog 15 #[.pointer (some ⟨B, 0, none⟩), .int .i64 e, v, pv] w R
/-- What comes of a leaf. -/
def FOut (d lo : Nat) (w' : World) (n n' : Int) (inb : Bool) (tv : Value) (U : Lf (Tr d)) : Prop :=
  n + 1 ≤ n' ∧ n' ≤ 10001 + (d : Int) ∧ (n + 1 + (Tr.size d U.2.2 : Nat) ≤ 10000 → n' = n + 1 + (Tr.size d U.2.2 : Nat) ∧ inb = U.2.1 ∧ TrIn d lo w'.heap.size w' tv U.2.2) ∧ (10000 < n + 1 + (Tr.size d U.2.2 : Nat) → 10000 < n')
def set5 (w : World) (b : Nat) (v0 v1 v2 v3 v4 : Value) : World := ((((w.setCell ⟨b, 0, none⟩ v0).setCell ⟨b, 1, none⟩ v1).setCell ⟨b, 2, none⟩ v2).setCell ⟨b, 3, none⟩ v3).setCell ⟨b, 4, none⟩ v4
theorem Blk.set5 {w : World} {b : Nat} {t : TypeId} {x0 x1 x2 x3 x4 : Value} (h : Blk w b [x0, x1, x2, x3, x4] t) (v0 v1 v2 v3 v4 : Value) : Blk (set5 w b v0 v1 v2 v3 v4) b [v0, v1, v2, v3, v4] t := ((((h.set 0 v0).set 1 v1).set 2 v2).set 3 v3).set 4 v4
theorem below_set5 {B : Nat} {w w' : World} (h : Below B w w') {b : Nat} (hb : B ≤ b) (v0 v1 v2 v3 v4 : Value) : Below B w (set5 w' b v0 v1 v2 v3 v4) :=
  ((((h.setCell (p := ⟨b, 0, none⟩) hb v0).setCell (p := ⟨b, 1, none⟩) hb v1).setCell (p := ⟨b, 2, none⟩) hb v2).setCell (p := ⟨b, 3, none⟩) hb v3).setCell (p := ⟨b, 4, none⟩) hb v4
theorem set5_other {w : World} {b k : Nat} (hk : k ≠ b) (v0 v1 v2 v3 v4 : Value) : (set5 w b v0 v1 v2 v3 v4).heap[k]? = w.heap[k]? := by
  unfold set5
  rw [Below.heap_setCell _ _ _ _ hk, Below.heap_setCell _ _ _ _ hk, Below.heap_setCell _ _ _ _ hk, Below.heap_setCell _ _ _ _ hk, Below.heap_setCell _ _ _ _ hk]
theorem set5_size {w : World} {b : Nat} (v0 v1 v2 v3 v4 : Value) : (set5 w b v0 v1 v2 v3 v4).heap.size = w.heap.size := by simp [set5, World.setCell]
theorem Blk.runLeaf {w : World} {b : Nat} {x0 x1 x2 x3 x4 : Value} (h : Blk w b [x0, x1, x2, x3, x4] 64) : (loadVar 64 ⟨b, 0, none⟩).run Try.prog w = .ok (.agg #[x0, x1, x2, x3, x4]) w := leaf_run h.cells
theorem TOut.mono {d lo lo' : Nat} {w' w'' : World} {n n' : Int} {v : Value} {t : Tr d} (h : TOut d lo w' n n' v t) (hlo : lo' ≤ lo) (ha : Agree lo w'.heap.size w' w'') (hz : w'.heap.size ≤ w''.heap.size) : TOut d lo' w'' n n' v t :=
  ⟨h.1, h.2.1, fun hs => ⟨(h.2.2.1 hs).1, (TrIn.loc d).mono ((TrIn.loc d).agree (h.2.2.1 hs).2 ha) hlo hz⟩, h.2.2.2⟩
theorem Only.thenA {A : Nat → Prop} {a b c : World} (h : Only A a b) (k : Below a.heap.size b c) : Only A a c :=
  ⟨k.os.trans h.os, k.tape.trans h.tape, k.output.trans h.output, Nat.le_trans h.size k.size, fun i hi hA => (k.block i hi).trans (h.block i hi hA)⟩
theorem Only.join {B : Nat} {A : Nat → Prop} {a b c : World} (h : Only (· = B) a b) (k : Only A b c) (hA : ∀ i, i < a.heap.size → A i → i = B) : Only (· = B) a c :=
  ⟨k.os.trans h.os, k.tape.trans h.tape, k.output.trans h.output, Nat.le_trans h.size k.size, fun i hi hn => (k.block i (Nat.lt_of_lt_of_le hi h.size) (fun e => hn (hA i hi e))).trans (h.block i hi hn)⟩
theorem within_fine {p : List It} (h : finePat p = true) {x : It} (hx : x ∈ p) (hw : x.wild = false) {e : Int} {path : List Int} {sub : List It} (hs : withinP x p e path = some sub) : finePat sub = true := by
  unfold withinP at hs
  split at hs
  · rename_i hn
    injection hs with hs
    rw [← hs]; exact sub_fine h hx hn
  · split at hs
    · cases hs
    · rename_i h1
      split at hs
      · injection hs with hs
        rw [← hs]; exact h
      · rename_i h2
        injection hs with hs
        obtain ⟨j, hj, rfl⟩ := List.getElem_of_mem hx
        rw [← hs]
        exact less_fine h hj hw (by omega)
theorem one_int {b : Nat} {w : World} {z : Int} (h : Blk w b [.int .i64 z] 2) : Ints b (b + 1) w (.slice (some ⟨b, 0, none⟩) 1 1) [z] :=
  ⟨some ⟨b, 0, none⟩, 1, rfl, Nat.le_refl _, by decide, (fun h => by cases h), fun _ => ⟨b, 0, rfl, Nat.le_refl _, Nat.lt_succ_self _, fun k hk => by
    obtain rfl : k = 0 := by simpa using hk
    exact ⟨_, rfl, by rw [Nat.zero_mul]; exact h.cells, rfl⟩⟩⟩
theorem set5_agree {w : World} (b : Nat) {lo hi : Nat} (h : b < lo ∨ hi ≤ b) (v0 v1 v2 v3 v4 : Value) : Agree lo hi w (set5 w b v0 v1 v2 v3 v4) := fun k h1 h2 => set5_other (by omega) v0 v1 v2 v3 v4
theorem Pat.bl {B D lo hi bl : Nat} {w w0 w' : World} {v : Value} {ps : List IH} (h : Pat B D lo hi w v ps) (hO : Only (· = bl) w w') (hb : bl < lo ∨ hi ≤ bl) (hb2 : B < bl) : Pat B D lo hi w' v ps :=
  ⟨Sl.agree h.sl (flat_loc _) (hO.agree h.le (fun k e => by have : k = bl := e; omega)), fun p hp => (itE_loc D).agree (h.sub p hp) (hO.agree h.leB (fun k e => .inr (by have : k = bl := e; omega))), h.apart, Nat.le_trans h.le hO.size, Nat.le_trans h.leB hO.size, h.all⟩
set_option maxRecDepth 100000 in
set_option maxHeartbeats 16000000 in
theorem leaf_any (d : Nat) (hT : PTree d) (B M hA D lo hi lo2 hi2 : Nat) (lv av : Value) (fs : List Ft) (ats : List Attr) (n : Int) (u : V) (x : It) (xp : Option Addr) (xc : Nat) (ps : List IH) (path : List Int) (v pv : Value) (w : World)
    (hP : PulX B M hA w lv av fs ats n) (hx : ItIn B w x xp xc) (hp : Pat B D lo hi w v ps) (hpa : Pth B lo2 hi2 w pv path) (hF : Fit fs ats (d + 1) n path) (hfine : (finePat (ps.map (·.1)) = true ∧ x ∈ ps.map (·.1) ∧ x.wild = false) ∨ (x.nested = false ∧ x.rc = 0)) (R : Ending → World → Prop)
    (hR : ∀ w' n' inb a l c, Only (· = B) w w' → Blk w' B [lv, .map (some M), av, .int .i64 n', .bool (decide (10000 < n'))] 49 → FOut d w.heap.size w' n n' inb (.slice a l c) (leafP d (treeP fs ats d) x (ps.map (·.1)) path u) → R (.returned (.agg #[.int .i64 u.kind, .int .i64 u.n, .string ⟨u.s.toArray⟩, .bool inb, .slice a l c])) w') :
    Calls Try.prog 48 #[.pointer (some ⟨B, 0, none⟩), .agg #[.int .i64 u.kind, .int .i64 u.n, .string ⟨u.s.toArray⟩], .agg #[.bool x.wild, .string ⟨x.attr.toArray⟩, .bool x.back, .int .i64 x.limit, .bool x.has, .int .i64 x.dflt.kind, .int .i64 x.dflt.n, .string ⟨x.dflt.s.toArray⟩, .bool x.nested, .slice xp x.sub.length xc, .int .i64 x.rc], v, pv] w R := by
  have HR := Lib.hid hR
  have HP := Lib.hid hP
  have Hx := Lib.hid hx
  have Hp := Lib.hid hp
  have Hpa := Lib.hid hpa
  have HF := Lib.hid hF
  have Hfine := Lib.hid hfine
  have hn0 := hF.n0
  have hn1 := hF.n1
  have hd1 := hF.d1
  have hplen := hp.len
  have hBb := hP.blk.lt
  obtain ⟨ap, cp, rfl, -⟩ := hp.sl.form
  obtain ⟨aq, cq, rfl, -⟩ := hpa.sl.form
  have hng : ¬ (10000 : Int) < n := by omega
  have hbk0 : Blk w B [lv, .map (some M), av, .int .i64 n, .bool false] 49 := by have h := hP.blk; rwa [decide_eq_false hng] at h
  have h1 := alloc_below w (.cells #[.int .i64 u.kind, .int .i64 u.n, .string ⟨u.s.toArray⟩] 39)
  have b1 := Blk.new w [.int .i64 u.kind, .int .i64 u.n, .string ⟨u.s.toArray⟩] 39 rfl
  have s1 : (w.alloc (.cells #[.int .i64 u.kind, .int .i64 u.n, .string ⟨u.s.toArray⟩] 39)).heap.size = w.heap.size + 1 := by simp
  have h2 := alloc_below (w.alloc (.cells #[.int .i64 u.kind, .int .i64 u.n, .string ⟨u.s.toArray⟩] 39)) (.cells #[.bool x.wild, .string ⟨x.attr.toArray⟩, .bool x.back, .int .i64 x.limit, .bool x.has, .int .i64 x.dflt.kind, .int .i64 x.dflt.n, .string ⟨x.dflt.s.toArray⟩, .bool x.nested, .slice xp x.sub.length xc, .int .i64 x.rc] 66)
  have b2 := Blk.new (w.alloc (.cells #[.int .i64 u.kind, .int .i64 u.n, .string ⟨u.s.toArray⟩] 39)) [.bool x.wild, .string ⟨x.attr.toArray⟩, .bool x.back, .int .i64 x.limit, .bool x.has, .int .i64 x.dflt.kind, .int .i64 x.dflt.n, .string ⟨x.dflt.s.toArray⟩, .bool x.nested, .slice xp x.sub.length xc, .int .i64 x.rc] 66 rfl
  have s2 : ((w.alloc (.cells #[.int .i64 u.kind, .int .i64 u.n, .string ⟨u.s.toArray⟩] 39)).alloc (.cells #[.bool x.wild, .string ⟨x.attr.toArray⟩, .bool x.back, .int .i64 x.limit, .bool x.has, .int .i64 x.dflt.kind, .int .i64 x.dflt.n, .string ⟨x.dflt.s.toArray⟩, .bool x.nested, .slice xp x.sub.length xc, .int .i64 x.rc] 66)).heap.size = w.heap.size + 1 + 1 := by simp
  have h3 := alloc_below ((w.alloc (.cells #[.int .i64 u.kind, .int .i64 u.n, .string ⟨u.s.toArray⟩] 39)).alloc (.cells #[.bool x.wild, .string ⟨x.attr.toArray⟩, .bool x.back, .int .i64 x.limit, .bool x.has, .int .i64 x.dflt.kind, .int .i64 x.dflt.n, .string ⟨x.dflt.s.toArray⟩, .bool x.nested, .slice xp x.sub.length xc, .int .i64 x.rc] 66)) (.cells #[.int .i64 0, .int .i64 0, .string ⟨#[]⟩, .bool false, .slice none 0 0] 64)
  have b3 := Blk.new ((w.alloc (.cells #[.int .i64 u.kind, .int .i64 u.n, .string ⟨u.s.toArray⟩] 39)).alloc (.cells #[.bool x.wild, .string ⟨x.attr.toArray⟩, .bool x.back, .int .i64 x.limit, .bool x.has, .int .i64 x.dflt.kind, .int .i64 x.dflt.n, .string ⟨x.dflt.s.toArray⟩, .bool x.nested, .slice xp x.sub.length xc, .int .i64 x.rc] 66)) [.int .i64 0, .int .i64 0, .string ⟨#[]⟩, .bool false, .slice none 0 0] 64 rfl
  rw [s1] at b2 h2
  rw [s2] at b3 h3
  have b1 := (b1.below h2 (by omega)).below h3 (by omega)
  have b2 := b2.below h3 (by omega)
  have hB3 : Below w.heap.size w (((w.alloc (.cells #[.int .i64 u.kind, .int .i64 u.n, .string ⟨u.s.toArray⟩] 39)).alloc (.cells #[.bool x.wild, .string ⟨x.attr.toArray⟩, .bool x.back, .int .i64 x.limit, .bool x.has, .int .i64 x.dflt.kind, .int .i64 x.dflt.n, .string ⟨x.dflt.s.toArray⟩, .bool x.nested, .slice xp x.sub.length xc, .int .i64 x.rc] 66)).alloc (.cells #[.int .i64 0, .int .i64 0, .string ⟨#[]⟩, .bool false, .slice none 0 0] 64)) := (h1.trans (h2.mono (by omega))).trans (h3.mono (by omega))
  clear hR hP hx hp hpa hF hfine h1 h2 h3 s1 s2
  go_enter Try.func48, Try.ntmps48
  go_upto_region 1 with fail
  generalize ((w.alloc (.cells #[.int .i64 u.kind, .int .i64 u.n, .string ⟨u.s.toArray⟩] 39)).alloc (.cells #[.bool x.wild, .string ⟨x.attr.toArray⟩, .bool x.back, .int .i64 x.limit, .bool x.has, .int .i64 x.dflt.kind, .int .i64 x.dflt.n, .string ⟨x.dflt.s.toArray⟩, .bool x.nested, .slice xp x.sub.length xc, .int .i64 x.rc] 66)).alloc (.cells #[.int .i64 0, .int .i64 0, .string ⟨#[]⟩, .bool false, .slice none 0 0] 64) = w1 at *
  obtain ⟨bv, ebv⟩ : ∃ b, b = w.heap.size := ⟨_, rfl⟩
  rw [← ebv] at b1 b2 b3 ⊢
  obtain ⟨bx, ebx⟩ : ∃ b, b = bv + 1 := ⟨_, rfl⟩
  rw [← ebx] at b2 b3 ⊢
  obtain ⟨bo, ebo⟩ : ∃ b, b = bx + 1 := ⟨_, rfl⟩
  rw [← ebo] at b3 ⊢
  have hbv : w.heap.size ≤ bv := by omega
  have hbx : w.heap.size ≤ bx := by omega
  have hbo : w.heap.size ≤ bo := by omega
  have hbxv : bv < bx := by omega
  have hbox : bx < bo := by omega
  have HB1 := Lib.hid hB3
  have Hbv := Lib.hid b1
  have Hbx := Lib.hid b2
  have Hbo := Lib.hid b3
  have hz1 := hB3.size
  have hbol := b3.lt
  have Hk1 := Lib.hid (hbk0.below hB3 hbk0.lt)
  have y3 := Hk1.out.cells 3 _ rfl
  have yl := Hk1.out.lt
  have yf := Hk1.out.free 3
  simp only [Nat.zero_add] at y3
  have hw63 : IntKind.i64.wrap (n + 1) = n + 1 := wrapIn (by omega) (by omega)
  clear ebv ebx ebo hB3 b1 b2 b3 hbk0
  go_upto_region 2 with fail
  have Hk2 := Lib.hid (Hk1.out.set 3 (.int .i64 (n + 1)))
  have HO2 := Lib.hid ((Below.only HB1.out).trans (onlySet w1 B 3 (.int .i64 (n + 1))))
  have HA2 : Hid (Below (B + 1) w1 (w1.setCell ⟨B, 3, none⟩ (.int .i64 (n + 1))) ∨ True) := Lib.hid (.inr trivial)
  have HS2 := Lib.hid (onlySet w1 B 3 (.int .i64 (n + 1)))
  generalize w1.setCell ⟨B, 3, none⟩ (.int .i64 (n + 1)) = w2 at *
  have hz2 := HS2.out.size
  clear y3 yl yf HA2
  have y3 := Hk2.out.cells 3 _ rfl
  have y4 := Hk2.out.cells 4 _ rfl
  have yl := Hk2.out.lt
  have yf := Hk2.out.free 4
  simp only [Nat.zero_add] at y3 y4
  obtain ⟨g, hg⟩ : ∃ g, g = decide (10000 < n + 1) := ⟨_, rfl⟩
  have Hg := Lib.hid hg
  have Hk3 := Lib.hid (Hk2.out.set 4 (.bool g))
  have HS3 := Lib.hid (HS2.out.trans (onlySet w2 B 4 (.bool g)))
  have hcmp : decide ((10000 : Int) < n + 1) = g := hg.symm
  clear hg
  cases g with
  | true =>
    have hgr : (10000 : Int) < n + 1 := by simpa using hcmp
    clear hcmp
    go_upto_region 3 with fail
    generalize w2.setCell ⟨B, 4, none⟩ (.bool true) = w3 at *
    clear y3 y4 yl yf
    have hz3 := HS3.out.size
    have Hbv3 := Lib.hid (HS3.out.blk Hbv.out (by omega))
    have Hbx3 := Lib.hid (HS3.out.blk Hbx.out (by omega))
    have Hbo3 := Lib.hid (HS3.out.blk Hbo.out (by omega))
    obtain ⟨v0, v1, v2⟩ := branch_cells Hbv3.out.cells
    simp only [Nat.zero_add] at v1 v2
    have h4 := alloc_below w3 (.cells #[.int .i64 u.kind, .int .i64 u.n, .string ⟨u.s.toArray⟩, .bool false, .slice none 0 0] 64)
    have b4 := Blk.new w3 [.int .i64 u.kind, .int .i64 u.n, .string ⟨u.s.toArray⟩, .bool false, .slice none 0 0] 64 rfl
    go_upto_region 4 with fail
    generalize w3.alloc (.cells #[.int .i64 u.kind, .int .i64 u.n, .string ⟨u.s.toArray⟩, .bool false, .slice none 0 0] 64) = w4 at *
    obtain ⟨bl, ebl⟩ : ∃ b, b = w3.heap.size := ⟨_, rfl⟩
    rw [← ebl] at b4 ⊢
    have Hbl4 := Lib.hid b4
    have hbl0 : w1.heap.size ≤ bl := by omega
    have hz4 := h4.size
    have hbll := b4.lt
    have Hk4 := Lib.hid (Hk3.out.below h4 Hk3.out.lt)
    have Hbv4 := Lib.hid (Hbv3.out.below h4 Hbv3.out.lt)
    have Hbx4 := Lib.hid (Hbx3.out.below h4 Hbx3.out.lt)
    have Hbo4 := Lib.hid (Hbo3.out.below h4 Hbo3.out.lt)
    have HO4 : Hid (Only (· = B) w w4) := Lib.hid (((Below.only HB1.out).trans HS3.out).trans (Below.only h4))
    have y4 := Hk4.out.cells 4 _ rfl
    simp only [Nat.zero_add] at y4
    clear v0 v1 v2 h4 b4 ebl
    obtain ⟨v0, v1, v2⟩ := branch_cells Hbv4.out.cells
    simp only [Nat.zero_add] at v1 v2
    have HU : Hid (∀ w', FOut d w.heap.size w' n (n + 1) false (.slice none 0 0) (leafP d (treeP fs ats d) x (ps.map (·.1)) path u)) := Lib.hid (fun w' => ⟨by omega, by omega, fun h => by omega, fun _ => by omega⟩)
    have hdc : decide ((10000 : Int) < n + 1) = true := decide_eq_true hgr
    rw [← hdc] at Hk4
    obtain ⟨l0, l1, l2, l3, l4⟩ := leaf_cells Hbl4.out.cells
    simp only [Nat.zero_add] at l1 l2 l3 l4
    obtain ⟨o0, o1, o2, o3, o4⟩ := leaf_cells Hbo4.out.cells
    simp only [Nat.zero_add] at o1 o2 o3 o4
    have ol := Hbo4.out.lt
    have of0 := Hbo4.out.free 0
    have of1 := Hbo4.out.free 1
    have of2 := Hbo4.out.free 2
    have of3 := Hbo4.out.free 3
    have of4 := Hbo4.out.free 4
    have hr := HR.out (set5 w4 bo (.int .i64 u.kind) (.int .i64 u.n) (.string ⟨u.s.toArray⟩) (.bool false) (.slice none 0 0)) (n + 1) false none 0 0 (HO4.out.then (below_set5 (Below.refl _ _) (by omega) _ _ _ _ _)) (Hk4.out.below (below_set5 (B := bo) (Below.refl _ _) (Nat.le_refl _) _ _ _ _ _) (by omega)) (HU.out _)
    have hrv := (Blk.set5 Hbo4.out (.int .i64 u.kind) (.int .i64 u.n) (.string ⟨u.s.toArray⟩) (.bool false) (.slice none 0 0)).runLeaf
    unfold set5 at hr hrv
    have Hr := Lib.hid hr
    have Hrv := Lib.hid hrv
    clear hr hrv
    go_wp2_with fail
    exact ret_cell rfl rfl Hrv.out rfl Hr.out
  | false =>
    have hgr : ¬ (10000 : Int) < n + 1 := by simpa using hcmp
    have hdc : decide ((10000 : Int) < n + 1) = false := hcmp
    clear hcmp
    go_upto_region 3 with fail
    generalize w2.setCell ⟨B, 4, none⟩ (.bool false) = w3 at *
    clear y3 y4 yl yf
    have hz3 := HS3.out.size
    have Hbv3 := Lib.hid (HS3.out.blk Hbv.out (by omega))
    have Hbx3 := Lib.hid (HS3.out.blk Hbx.out (by omega))
    have Hbo3 := Lib.hid (HS3.out.blk Hbo.out (by omega))
    obtain ⟨v0, v1, v2⟩ := branch_cells Hbv3.out.cells
    simp only [Nat.zero_add] at v1 v2
    have h4 := alloc_below w3 (.cells #[.int .i64 u.kind, .int .i64 u.n, .string ⟨u.s.toArray⟩, .bool false, .slice none 0 0] 64)
    have b4 := Blk.new w3 [.int .i64 u.kind, .int .i64 u.n, .string ⟨u.s.toArray⟩, .bool false, .slice none 0 0] 64 rfl
    go_upto_region 4 with fail
    generalize w3.alloc (.cells #[.int .i64 u.kind, .int .i64 u.n, .string ⟨u.s.toArray⟩, .bool false, .slice none 0 0] 64) = w4 at *
    obtain ⟨bl, ebl⟩ : ∃ b, b = w3.heap.size := ⟨_, rfl⟩
    rw [← ebl] at b4 ⊢
    have Hbl4 := Lib.hid b4
    have hbl0 : w1.heap.size ≤ bl := by omega
    have hz4 := h4.size
    have hbll := b4.lt
    have Hk4 := Lib.hid (Hk3.out.below h4 Hk3.out.lt)
    have Hbv4 := Lib.hid (Hbv3.out.below h4 Hbv3.out.lt)
    have Hbx4 := Lib.hid (Hbx3.out.below h4 Hbx3.out.lt)
    have Hbo4 := Lib.hid (Hbo3.out.below h4 Hbo3.out.lt)
    have HO4 : Hid (Only (· = B) w w4) := Lib.hid (((Below.only HB1.out).trans HS3.out).trans (Below.only h4))
    have y4 := Hk4.out.cells 4 _ rfl
    simp only [Nat.zero_add] at y4
    clear v0 v1 v2 h4 b4 ebl
    obtain ⟨v0, v1, v2⟩ := branch_cells Hbv4.out.cells
    simp only [Nat.zero_add] at v1 v2
    by_cases h5 : u.kind = 5
    · have h52 : (u.kind != 5) = false := by simpa using h5
      have Hx4 := Lib.hid (Hx.out.turn HO4.out)
      have Hp4 := Lib.hid (Hp.out.turn HO4.out)
      have Hpa4 := Lib.hid (Hpa.out.turn HO4.out)
      have Hf2 : Hid (finePat (ps.map (·.1)) = true ∨ (x.nested = false ∧ x.rc = 0)) := Lib.hid (Hfine.out.imp (·.1) id)
      obtain ⟨x0, x1, x2, x3, x4, x5, x6, x7, x8, x9, x10⟩ := item_cells Hbx4.out.cells
      simp only [Nat.zero_add] at x1 x2 x3 x4 x5 x6 x7 x8 x9 x10
      have H5 := Lib.hid h5
      clear h5
      go_wp2_with fail
      refine within_any B D lo hi lo2 hi2 x xp xc ps u.n path _ _ w4 Hx4.out Hp4.out Hpa4.out Hf2.out (by omega) _ (fun w5 hB5 hno => ?_) (fun w5 sa sl sc D' lo' hi' qs hB5 hsome hpat hwh => ?_)
      · have HU : Hid (∀ w', FOut d w.heap.size w' n (n + 1) false (.slice none 0 0) (leafP d (treeP fs ats d) x (ps.map (·.1)) path u)) := Lib.hid (fun w' => by
          rw [leafP_plain (.inr hno)]
          refine ⟨by omega, by omega, fun h => ⟨?_, rfl, TrIn.none d _ _ _⟩, fun h => ?_⟩
          · simp [size_none]
          · simp [size_none] at h; omega)
        rw [← hdc] at Hk4
        clear hno x0 x1 x2 x3 x4 x5 x6 x7 x8 x9 x10
        have hz5 := hB5.size
        have Hbl4 := Lib.hid (Hbl4.out.below hB5 Hbl4.out.lt)
        have Hk4 := Lib.hid (Hk4.out.below hB5 Hk4.out.lt)
        have Hbv4 := Lib.hid (Hbv4.out.below hB5 Hbv4.out.lt)
        have Hbo4 := Lib.hid (Hbo4.out.below hB5 Hbo4.out.lt)
        have HO4 : Hid (Only (· = B) w w5) := Lib.hid (HO4.out.trans (Below.only hB5))
        clear hB5 y4 v0 v1 v2
        obtain ⟨l0, l1, l2, l3, l4⟩ := leaf_cells Hbl4.out.cells
        simp only [Nat.zero_add] at l1 l2 l3 l4
        obtain ⟨o0, o1, o2, o3, o4⟩ := leaf_cells Hbo4.out.cells
        simp only [Nat.zero_add] at o1 o2 o3 o4
        have ol := Hbo4.out.lt
        have of0 := Hbo4.out.free 0
        have of1 := Hbo4.out.free 1
        have of2 := Hbo4.out.free 2
        have of3 := Hbo4.out.free 3
        have of4 := Hbo4.out.free 4
        have hr := HR.out (set5 w5 bo (.int .i64 u.kind) (.int .i64 u.n) (.string ⟨u.s.toArray⟩) (.bool false) (.slice none 0 0)) (n + 1) false none 0 0 (HO4.out.then (below_set5 (Below.refl _ _) (by omega) _ _ _ _ _)) (Hk4.out.below (below_set5 (B := bo) (Below.refl _ _) (Nat.le_refl _) _ _ _ _ _) (by omega)) (HU.out _)
        have hrv := (Blk.set5 Hbo4.out (.int .i64 u.kind) (.int .i64 u.n) (.string ⟨u.s.toArray⟩) (.bool false) (.slice none 0 0)).runLeaf
        unfold set5 at hr hrv
        have Hr := Lib.hid hr
        have Hrv := Lib.hid hrv
        clear hr hrv
        go_wp2_with fail
        exact ret_cell rfl rfl Hrv.out rfl Hr.out
      · have HU0 : Hid (leafP d (treeP fs ats d) x (ps.map (·.1)) path u = (u, true, treeP fs ats d u.n (qs.map (·.1)) (path ++ [u.n]))) := Lib.hid (leafP_in H5.out hsome)
        have Hqf : Hid (finePat (qs.map (·.1)) = true) := Lib.hid (by
          rcases Hfine.out with ⟨h1, h2, h3⟩ | ⟨h1, h2⟩
          · exact within_fine h1 h2 h3 hsome
          · unfold withinP at hsome
            rw [if_neg (by rw [h1]; decide), if_pos (.inl h2)] at hsome
            cases hsome)
        have Hpt5 := Lib.hid hpat
        have Hwh : Hid (bl < lo' ∨ hi' ≤ bl) := Lib.hid (by have := Hp4.out.le; have := Hp.out.le; omega)
        rw [← hdc] at Hk4
        clear hsome hpat hwh x0 x1 x2 x3 x4 x5 x6 x7 x8 x9 x10
        have hz5 := hB5.size
        have Hbl4 := Lib.hid (Hbl4.out.below hB5 Hbl4.out.lt)
        have Hk4 := Lib.hid (Hk4.out.below hB5 Hk4.out.lt)
        have Hbv4 := Lib.hid (Hbv4.out.below hB5 Hbv4.out.lt)
        have Hbo4 := Lib.hid (Hbo4.out.below hB5 Hbo4.out.lt)
        have HO4 : Hid (Only (· = B) w w5) := Lib.hid (HO4.out.trans (Below.only hB5))
        clear hB5 y4 v0 v1 v2
        obtain ⟨l0, l1, l2, l3, l4⟩ := leaf_cells Hbl4.out.cells
        simp only [Nat.zero_add] at l3
        have lz := Hbl4.out.lt
        have lf := Hbl4.out.free 3
        go_upto_region 9 with fail
        have Hbl6 := Lib.hid (Hbl4.out.set 3 (.bool true))
        have hB6 := (Below.refl bl w5).setCell (p := ⟨bl, 3, none⟩) (Nat.le_refl _) (.bool true)
        have hB6w := (Below.refl w.heap.size w5).setCell (p := ⟨bl, 3, none⟩) (show w.heap.size ≤ bl by omega) (.bool true)
        have HO6 := Lib.hid (HO4.out.then hB6w)
        have hS6 := Only.setCell (A := (· = bl)) w5 (p := ⟨bl, 3, none⟩) rfl (.bool true)
        have HS6 := Lib.hid hS6
        generalize w5.setCell ⟨bl, 3, none⟩ (.bool true) = w6 at *
        have hz6 := hS6.size
        have HX6 : Hid (PulX B M hA w6 lv av fs ats (n + 1)) := Lib.hid (HP.out.turn HO6.out (Hk4.out.below hB6 (by omega)))
        have Hpa6 := Lib.hid (Hpa.out.turn HO6.out)
        have Hpt6 : Hid (Pat B D' lo' hi' w6 (.slice sa sl sc) qs) := Lib.hid ((Pat.bl (w0 := w5) Hpt5.out hS6 Hwh.out (by omega)))
        have Hbv6 := Lib.hid (hS6.blk Hbv4.out (by omega))
        have Hbo6 := Lib.hid (hS6.blk Hbo4.out (by omega))
        have Hnv : Hid (¬ (bv = B ∨ bv = bl)) := Lib.hid (by omega)
        have HFit : Hid (Fit fs ats d (n + 1) (path ++ [u.n])) := Lib.hid ⟨HF.out.fsl, HF.out.atl, HF.out.names, HF.out.lns, by omega, by omega, by have := HF.out.d0; omega, by omega, by rw [List.length_append, List.length_singleton]; have := HF.out.pth; omega⟩
        clear hB6 hB6w hS6 l0 l1 l2 l3 l4 lz lf
        refine region_meet (ι := Value × Nat × Value × Int × Option Addr × Nat × Nat) (fun ⟨vN, bn, v8, n2, ta, tl, tc⟩ => [(58, .pointer (some ⟨B, 0, none⟩)), (59, .pointer (some ⟨bv, 1, none⟩)), (60, .int .i64 (u.n)), (61, .slice sa sl sc), (62, .slice aq path.length cq), (63, vN), (64, .pointer (some ⟨bv, 1, none⟩)), (65, .int .i64 (u.n)), (66, .slice (some ⟨bn, 0, none⟩) 1 1), (67, v8), (68, .slice ta tl tc), (69, .pointer (some ⟨bl, 4, none⟩))]) (fun ⟨vN, bn, v8, n2, ta, tl, tc⟩ w' => Only (fun k => k = B ∨ k = bl) w6 w' ∧ Blk w' B [lv, .map (some M), av, .int .i64 n2, .bool (decide (10000 < n2))] 49 ∧ Blk w' bl [.int .i64 u.kind, .int .i64 u.n, .string ⟨u.s.toArray⟩, .bool true, .slice ta tl tc] 64 ∧ Hid (TOut d w6.heap.size w' (n + 1) n2 (.slice ta tl tc) (treeP fs ats d u.n (qs.map (·.1)) (path ++ [u.n])))) ?_ ?_
        · have hBel : Below w6.heap.size w6 w6.drew := (Below.refl _ _).drew
          refine wp_region_held_drew (S := fun w' => Only (fun k => k = B ∨ k = bl) w6 w') (by kernel_rfl) (Below.only hBel) (fun hHeld => ?_)
          refine wpAnyH_take (i := 0) (v := .pointer (some ⟨B, 0, none⟩)) rfl (by kernel_rfl) (by kernel_rfl) (by kernel_rfl) (fun _ _ _ h => h) (Or.inl ⟨by rfl, ?_⟩) hHeld ?_
          · intro w' hSw; go_simp
          try simp only [ν1, ν2, ν3, ν4, ν5, ν6, ν7, ν8]
          refine wpAnyH_take (i := 1) (v := .pointer (some ⟨bv, 1, none⟩)) rfl (by kernel_rfl) (by kernel_rfl) (by kernel_rfl) (fun _ _ _ h => h) (Or.inl ⟨by rfl, ?_⟩) hHeld ?_
          · intro w' hSw; go_simp
          try simp only [ν1, ν2, ν3, ν4, ν5, ν6, ν7, ν8]
          refine wpAnyH_take (i := 2) (v := .int .i64 (u.n)) rfl (by kernel_rfl) (by kernel_rfl) (by kernel_rfl) (fun _ _ _ h => h) (Or.inl ⟨by rfl, ?_⟩) hHeld ?_
          · intro w' hSw; have kc := (hSw.blk Hbv6.out Hnv.out).cells; have k1 := kc 1 _ rfl; simp only [Nat.zero_add] at k1; go_simp
          try simp only [ν1, ν2, ν3, ν4, ν5, ν6, ν7, ν8]
          refine wpAnyH_take (i := 3) (v := .slice sa sl sc) rfl (by kernel_rfl) (by kernel_rfl) (by kernel_rfl) (fun _ _ _ h => h) (Or.inl ⟨by rfl, ?_⟩) hHeld ?_
          · intro w' hSw; go_simp
          try simp only [ν1, ν2, ν3, ν4, ν5, ν6, ν7, ν8]
          refine wpAnyH_take (i := 4) (v := .slice aq path.length cq) rfl (by kernel_rfl) (by kernel_rfl) (by kernel_rfl) (fun _ _ _ h => h) (Or.inl ⟨by rfl, ?_⟩) hHeld ?_
          · intro w' hSw; go_simp
          try simp only [ν1, ν2, ν3, ν4, ν5, ν6, ν7, ν8]
          refine wpAnyH_take (i := 6) (v := .pointer (some ⟨bv, 1, none⟩)) rfl (by kernel_rfl) (by kernel_rfl) (by kernel_rfl) (fun _ _ _ h => h) (Or.inl ⟨by rfl, ?_⟩) hHeld ?_
          · intro w' hSw; go_simp
          try simp only [ν1, ν2, ν3, ν4, ν5, ν6, ν7, ν8]
          refine wpAnyH_take (i := 7) (v := .int .i64 (u.n)) rfl (by kernel_rfl) (by kernel_rfl) (by kernel_rfl) (fun _ _ _ h => h) (Or.inl ⟨by rfl, ?_⟩) hHeld ?_
          · intro w' hSw; have kc := (hSw.blk Hbv6.out Hnv.out).cells; have k1 := kc 1 _ rfl; simp only [Nat.zero_add] at k1; go_simp
          try simp only [ν1, ν2, ν3, ν4, ν5, ν6, ν7, ν8]
          refine wpAnyH_ready (rs := [5, 8]) (by kernel_rfl) (by simp) ?_
          refine allCall (f := 73) (args := #[.slice aq path.length cq]) rfl (by kernel_rfl) (by kernel_rfl) ?_ ?_
          · refine CloneN_any lo2 hi2 path _ w6.drew (Sl.below Hpa6.out.sl Ints.loc hBel Hpa6.out.le) (Nat.le_trans Hpa6.out.le hBel.size) (by have := HF.out.pth; omega) _ (fun wm1 vN hB hown => ?_)
            refine ⟨_, rfl, Below.only (hBel.trans (hB.mono hBel.size)), ?_⟩
            replace hown := Own.lower hown hBel.size
            replace hBel := hBel.trans (hB.mono hBel.size)
            clear hHeld
            have hHeld : Only (fun k => k = B ∨ k = bl) w6 wm1 := Below.only hBel
            clear hB
            try simp only [ν1, ν2, ν3, ν4, ν5, ν6, ν7, ν8]
            refine wpAnyH_ready (rs := [8]) (by kernel_rfl) (by simp) ?_
            refine allVal (v := .slice (some ⟨wm1.heap.size, 0, none⟩) 1 1) (w' := wm1.alloc (.cells #[.int .i64 u.n] 2)) rfl (by kernel_rfl) (by go_simp) (Below.only (hBel.trans ((alloc_below wm1 (.cells #[.int .i64 u.n] 2)).mono hBel.size))) ?_ AllReadyH.nil
            have hB := alloc_below wm1 (.cells #[.int .i64 u.n] 2)
            have hbn := Blk.new wm1 [.int .i64 u.n] 2 rfl
            have hbnl := hBel.size
            generalize wm1.alloc (.cells #[.int .i64 u.n] 2) = wm2 at *
            obtain ⟨bn, eb⟩ : ∃ b, b = wm1.heap.size := ⟨_, rfl⟩
            rw [← eb] at hbn hbnl ⊢
            clear eb
            replace hown := Own.kept hown hB
            replace hBel := hBel.trans (hB.mono hBel.size)
            clear hHeld
            have hHeld : Only (fun k => k = B ∨ k = bl) w6 wm2 := Below.only hBel
            clear hB
            try simp only [ν1, ν2, ν3, ν4, ν5, ν6, ν7, ν8]
            refine wpAnyH_ready (rs := [9]) (by kernel_rfl) (by simp) ?_
            obtain ⟨v8, w8, hr8, ho8, ha8⟩ := app_sl Try.underlying53 infoN rfl (fun _ => rfl) inE.one hown (one_int hbn) (by simp only [List.length_singleton]; have := HF.out.pth; omega) (by decide) hBel.size
            have hB := ha8.below (B := w6.heap.size) hBel.size (fun k hk => (Own.lt hown k hk).1)
            have hBel8 := hBel.trans hB
            refine allVal (v := v8) (w' := w8) rfl (by kernel_rfl) (execApp hr8 rfl rfl rfl) (Below.only hBel8) ?_ AllReadyH.nil
            clear hHeld hB hown hbn hBel hr8 ha8
            have hHeld : Only (fun k => k = B ∨ k = bl) w6 w8 := Below.only hBel8
            try simp only [ν1, ν2, ν3, ν4, ν5, ν6, ν7, ν8]
            refine wpAnyH_ready (rs := [10]) (by kernel_rfl) (by simp) ?_
            have HX8 := Lib.hid (HX6.out.below hBel8)
            have hz8 := hBel8.size
            refine allCall (f := 15) (args := #[.pointer (some ⟨B, 0, none⟩), .int .i64 u.n, .slice sa sl sc, v8]) rfl (by kernel_rfl) (by kernel_rfl) ?_ AllReadyH.nil
            refine hT B M hA D' lo' hi' w6.heap.size w8.heap.size lv av fs ats (n + 1) u.n qs (path ++ [u.n]) _ _ w8 HX8.out (Hpt6.out.turn (Below.only hBel8)) ⟨Sl.ofOwn (fun _ => rfl) ho8, by omega, Nat.le_refl _⟩ HFit.out Hqf.out _ (fun w9 n2 ta tl tc hO9 hbf hout9 => ?_)
            have hHeld9 : Only (fun k => k = B ∨ k = bl) w6 w9 := hHeld.trans (hO9.mono (fun _ _ h => .inl h))
            refine ⟨_, rfl, hHeld9, ?_⟩
            clear hHeld
            have hHeld := hHeld9
            clear hHeld9
            have hblf := hO9.blk (Hbl6.out.below hBel8 Hbl6.out.lt) (by omega)
            have hz9 := hO9.size
            try simp only [ν1, ν2, ν3, ν4, ν5, ν6, ν7, ν8]
            refine wpAnyH_take (i := 11) (v := .pointer (some ⟨bl, 4, none⟩)) rfl (by kernel_rfl) (by kernel_rfl) (by kernel_rfl) (fun _ _ _ h => h) (Or.inl ⟨by rfl, ?_⟩) hHeld ?_
            · intro w' hSw; go_simp
            try simp only [ν1, ν2, ν3, ν4, ν5, ν6, ν7, ν8]
            refine wpAnyH_ready (rs := [12]) (by kernel_rfl) (by simp) ?_
            obtain ⟨z0, z1, z2, z3, z4⟩ := leaf_cells hblf.cells
            simp only [Nat.zero_add] at z4
            have zl := hblf.lt
            have zf := hblf.free 4
            have hHeld9 : Only (fun k => k = B ∨ k = bl) w6 (w9.setCell ⟨bl, 4, none⟩ (.slice ta tl tc)) := hHeld.trans (Only.setCell (A := (fun k => k = B ∨ k = bl)) w9 (p := ⟨bl, 4, none⟩) (.inr rfl) _)
            refine allSkip (w' := (w9.setCell ⟨bl, 4, none⟩ (.slice ta tl tc))) rfl (by kernel_rfl) (by go_simp) hHeld9 ?_ AllReadyH.nil
            have Hout9 : Hid (TOut d w6.heap.size (w9.setCell ⟨bl, 4, none⟩ (.slice ta tl tc)) (n + 1) n2 (.slice ta tl tc) (treeP fs ats d u.n (qs.map (·.1)) (path ++ [u.n]))) := Lib.hid (hout9.mono hz8 ((Only.setCell (A := (· = bl)) w9 (p := ⟨bl, 4, none⟩) rfl _).agree (Nat.le_refl _) (fun k e => .inl (by have : k = bl := e; omega))) (by simp [World.setCell]))
            replace hbf := hbf.below ((Below.refl bl w9).setCell (p := ⟨bl, 4, none⟩) (Nat.le_refl _) (.slice ta tl tc)) (by omega)
            replace hblf := hblf.set 4 (.slice ta tl tc)
            clear hHeld z0 z1 z2 z3 z4 zl zf hout9
            have hHeld := hHeld9
            clear hHeld9
            try simp only [ν1, ν2, ν3, ν4, ν5, ν6, ν7, ν8]
            refine wpAnyH_done (by kernel_rfl) ?_ _
            exact ⟨⟨vN, bn, v8, n2, ta, tl, tc⟩, by kernel_rfl, hHeld, hbf, hblf, Hout9⟩
          refine allVal (v := .slice (some ⟨w6.drew.heap.size, 0, none⟩) 1 1) (w' := w6.drew.alloc (.cells #[.int .i64 u.n] 2)) rfl (by kernel_rfl) (by go_simp) (Below.only (hBel.trans ((alloc_below w6.drew (.cells #[.int .i64 u.n] 2)).mono hBel.size))) ?_ AllReadyH.nil
          have hB := alloc_below w6.drew (.cells #[.int .i64 u.n] 2)
          have hbn := Blk.new w6.drew [.int .i64 u.n] 2 rfl
          have hbnl := hBel.size
          generalize w6.drew.alloc (.cells #[.int .i64 u.n] 2) = wm6 at *
          obtain ⟨bn, eb⟩ : ∃ b, b = w6.drew.heap.size := ⟨_, rfl⟩
          rw [← eb] at hbn hbnl ⊢
          clear eb
          replace hBel := hBel.trans (hB.mono hBel.size)
          clear hHeld
          have hHeld : Only (fun k => k = B ∨ k = bl) w6 wm6 := Below.only hBel
          clear hB
          try simp only [ν1, ν2, ν3, ν4, ν5, ν6, ν7, ν8]
          refine wpAnyH_ready (rs := [5]) (by kernel_rfl) (by simp) ?_
          refine allCall (f := 73) (args := #[.slice aq path.length cq]) rfl (by kernel_rfl) (by kernel_rfl) ?_ AllReadyH.nil
          refine CloneN_any lo2 hi2 path _ wm6 (Sl.below Hpa6.out.sl Ints.loc hBel Hpa6.out.le) (Nat.le_trans Hpa6.out.le hBel.size) (by have := HF.out.pth; omega) _ (fun wm7 vN hB hown => ?_)
          refine ⟨_, rfl, Below.only (hBel.trans (hB.mono hBel.size)), ?_⟩
          replace hown := Own.lower hown hBel.size
          replace hbn := hbn.below hB hbn.lt
          replace hBel := hBel.trans (hB.mono hBel.size)
          clear hHeld
          have hHeld : Only (fun k => k = B ∨ k = bl) w6 wm7 := Below.only hBel
          clear hB
          try simp only [ν1, ν2, ν3, ν4, ν5, ν6, ν7, ν8]
          refine wpAnyH_ready (rs := [9]) (by kernel_rfl) (by simp) ?_
          obtain ⟨v8, w8, hr8, ho8, ha8⟩ := app_sl Try.underlying53 infoN rfl (fun _ => rfl) inE.one hown (one_int hbn) (by simp only [List.length_singleton]; have := HF.out.pth; omega) (by decide) hBel.size
          have hB := ha8.below (B := w6.heap.size) hBel.size (fun k hk => (Own.lt hown k hk).1)
          have hBel8 := hBel.trans hB
          refine allVal (v := v8) (w' := w8) rfl (by kernel_rfl) (execApp hr8 rfl rfl rfl) (Below.only hBel8) ?_ AllReadyH.nil
          clear hHeld hB hown hbn hBel hr8 ha8
          have hHeld : Only (fun k => k = B ∨ k = bl) w6 w8 := Below.only hBel8
          try simp only [ν1, ν2, ν3, ν4, ν5, ν6, ν7, ν8]
          refine wpAnyH_ready (rs := [10]) (by kernel_rfl) (by simp) ?_
          have HX8 := Lib.hid (HX6.out.below hBel8)
          have hz8 := hBel8.size
          refine allCall (f := 15) (args := #[.pointer (some ⟨B, 0, none⟩), .int .i64 u.n, .slice sa sl sc, v8]) rfl (by kernel_rfl) (by kernel_rfl) ?_ AllReadyH.nil
          refine hT B M hA D' lo' hi' w6.heap.size w8.heap.size lv av fs ats (n + 1) u.n qs (path ++ [u.n]) _ _ w8 HX8.out (Hpt6.out.turn (Below.only hBel8)) ⟨Sl.ofOwn (fun _ => rfl) ho8, by omega, Nat.le_refl _⟩ HFit.out Hqf.out _ (fun w9 n2 ta tl tc hO9 hbf hout9 => ?_)
          have hHeld9 : Only (fun k => k = B ∨ k = bl) w6 w9 := hHeld.trans (hO9.mono (fun _ _ h => .inl h))
          refine ⟨_, rfl, hHeld9, ?_⟩
          clear hHeld
          have hHeld := hHeld9
          clear hHeld9
          have hblf := hO9.blk (Hbl6.out.below hBel8 Hbl6.out.lt) (by omega)
          have hz9 := hO9.size
          try simp only [ν1, ν2, ν3, ν4, ν5, ν6, ν7, ν8]
          refine wpAnyH_take (i := 11) (v := .pointer (some ⟨bl, 4, none⟩)) rfl (by kernel_rfl) (by kernel_rfl) (by kernel_rfl) (fun _ _ _ h => h) (Or.inl ⟨by rfl, ?_⟩) hHeld ?_
          · intro w' hSw; go_simp
          try simp only [ν1, ν2, ν3, ν4, ν5, ν6, ν7, ν8]
          refine wpAnyH_ready (rs := [12]) (by kernel_rfl) (by simp) ?_
          obtain ⟨z0, z1, z2, z3, z4⟩ := leaf_cells hblf.cells
          simp only [Nat.zero_add] at z4
          have zl := hblf.lt
          have zf := hblf.free 4
          have hHeld9 : Only (fun k => k = B ∨ k = bl) w6 (w9.setCell ⟨bl, 4, none⟩ (.slice ta tl tc)) := hHeld.trans (Only.setCell (A := (fun k => k = B ∨ k = bl)) w9 (p := ⟨bl, 4, none⟩) (.inr rfl) _)
          refine allSkip (w' := (w9.setCell ⟨bl, 4, none⟩ (.slice ta tl tc))) rfl (by kernel_rfl) (by go_simp) hHeld9 ?_ AllReadyH.nil
          have Hout9 : Hid (TOut d w6.heap.size (w9.setCell ⟨bl, 4, none⟩ (.slice ta tl tc)) (n + 1) n2 (.slice ta tl tc) (treeP fs ats d u.n (qs.map (·.1)) (path ++ [u.n]))) := Lib.hid (hout9.mono hz8 ((Only.setCell (A := (· = bl)) w9 (p := ⟨bl, 4, none⟩) rfl _).agree (Nat.le_refl _) (fun k e => .inl (by have : k = bl := e; omega))) (by simp [World.setCell]))
          replace hbf := hbf.below ((Below.refl bl w9).setCell (p := ⟨bl, 4, none⟩) (Nat.le_refl _) (.slice ta tl tc)) (by omega)
          replace hblf := hblf.set 4 (.slice ta tl tc)
          clear hHeld z0 z1 z2 z3 z4 zl zf hout9
          have hHeld := hHeld9
          clear hHeld9
          try simp only [ν1, ν2, ν3, ν4, ν5, ν6, ν7, ν8]
          refine wpAnyH_done (by kernel_rfl) ?_ _
          exact ⟨⟨vN, bn, v8, n2, ta, tl, tc⟩, by kernel_rfl, hHeld, hbf, hblf, Hout9⟩
        rintro ⟨vN, bn, v8, n2, ta, tl, tc⟩ w9 ⟨hO9, hbf, hblf, Hout9⟩
        simp only [List.foldl_cons, List.foldl_nil]
        try simp only [ν1, ν2, ν3, ν4, ν5, ν6, ν7, ν8]
        have HO7 : Hid (Only (· = B) w w9) := Lib.hid (HO6.out.join hO9 (fun i hi h => by omega))
        have Hbl4 := Lib.hid hblf
        have Hbo4 := Lib.hid (hO9.blk Hbo6.out (by omega))
        have Hk4 := Lib.hid hbf
        have hz9 := hO9.size
        have HU : Hid (∀ w', Agree w6.heap.size w9.heap.size w9 w' → w9.heap.size ≤ w'.heap.size → FOut d w.heap.size w' n n2 true (.slice ta tl tc) (leafP d (treeP fs ats d) x (ps.map (·.1)) path u)) := Lib.hid (fun w' ha hzz => by
          rw [HU0.out]
          obtain ⟨t1, t2, t3, t4⟩ := Hout9.out
          exact ⟨t1, t2, fun h => ⟨(t3 h).1, rfl, (TrIn.loc d).mono ((TrIn.loc d).agree (t3 h).2 ha) (by omega) hzz⟩, t4⟩)
        clear hO9 hbf hblf
        obtain ⟨l0, l1, l2, l3, l4⟩ := leaf_cells Hbl4.out.cells
        simp only [Nat.zero_add] at l1 l2 l3 l4
        obtain ⟨o0, o1, o2, o3, o4⟩ := leaf_cells Hbo4.out.cells
        simp only [Nat.zero_add] at o1 o2 o3 o4
        have ol := Hbo4.out.lt
        have of0 := Hbo4.out.free 0
        have of1 := Hbo4.out.free 1
        have of2 := Hbo4.out.free 2
        have of3 := Hbo4.out.free 3
        have of4 := Hbo4.out.free 4
        have hr := HR.out (set5 w9 bo (.int .i64 u.kind) (.int .i64 u.n) (.string ⟨u.s.toArray⟩) (.bool true) (.slice ta tl tc)) n2 true ta tl tc (HO7.out.then (below_set5 (Below.refl _ _) (by omega) _ _ _ _ _)) (Hk4.out.below (below_set5 (B := bo) (Below.refl _ _) (Nat.le_refl _) _ _ _ _ _) (by omega)) (HU.out _ ((set5_agree bo (by omega) _ _ _ _ _)) (by rw [set5_size]; exact Nat.le_refl _))
        have hrv := (Blk.set5 Hbo4.out (.int .i64 u.kind) (.int .i64 u.n) (.string ⟨u.s.toArray⟩) (.bool true) (.slice ta tl tc)).runLeaf
        unfold set5 at hr hrv
        have Hr := Lib.hid hr
        have Hrv := Lib.hid hrv
        clear hr hrv
        go_wp2_with fail
        exact ret_cell rfl rfl Hrv.out rfl Hr.out
    · have h52 : (u.kind != 5) = true := by simpa using h5
      have HU : Hid (∀ w', FOut d w.heap.size w' n (n + 1) false (.slice none 0 0) (leafP d (treeP fs ats d) x (ps.map (·.1)) path u)) := Lib.hid (fun w' => by
        rw [leafP_plain (.inl h5)]
        refine ⟨by omega, by omega, fun h => ⟨?_, rfl, TrIn.none d _ _ _⟩, fun h => ?_⟩
        · simp [size_none]
        · simp [size_none] at h; omega)
      rw [← hdc] at Hk4
      clear h5
      obtain ⟨l0, l1, l2, l3, l4⟩ := leaf_cells Hbl4.out.cells
      simp only [Nat.zero_add] at l1 l2 l3 l4
      obtain ⟨o0, o1, o2, o3, o4⟩ := leaf_cells Hbo4.out.cells
      simp only [Nat.zero_add] at o1 o2 o3 o4
      have ol := Hbo4.out.lt
      have of0 := Hbo4.out.free 0
      have of1 := Hbo4.out.free 1
      have of2 := Hbo4.out.free 2
      have of3 := Hbo4.out.free 3
      have of4 := Hbo4.out.free 4
      have hr := HR.out (set5 w4 bo (.int .i64 u.kind) (.int .i64 u.n) (.string ⟨u.s.toArray⟩) (.bool false) (.slice none 0 0)) (n + 1) false none 0 0 (HO4.out.then (below_set5 (Below.refl _ _) (by omega) _ _ _ _ _)) (Hk4.out.below (below_set5 (B := bo) (Below.refl _ _) (Nat.le_refl _) _ _ _ _ _) (by omega)) (HU.out _)
      have hrv := (Blk.set5 Hbo4.out (.int .i64 u.kind) (.int .i64 u.n) (.string ⟨u.s.toArray⟩) (.bool false) (.slice none 0 0)).runLeaf
      unfold set5 at hr hrv
      have Hr := Lib.hid hr
      have Hrv := Lib.hid hrv
      clear hr hrv
      go_wp2_with fail
      exact ret_cell rfl rfl Hrv.out rfl Hr.out
end Go.Proofs.Yticbhfmpnmolcaa
end

/- pull's values of an item, and the iterator that tells them. (Printed by puls.py.) -/
section
set_option linter.unusedVariables false
set_option linter.unusedSimpArgs false
namespace Go.Proofs.Yticbhfmpnmolcaa
open Go.RowKit
set_option linter.unusedVariables false
set_option linter.unusedSimpArgs false
set_option maxRecDepth 100000 in
set_option maxHeartbeats 8000000 in
theorem pValues_any (B M hA : Nat) (lv av : Value) (fs : List Ft) (ats : List Attr) (n e : Int) (x : It) (xp : Option Addr) (xc : Nat) (w : World) (hP : PulX B M hA w lv av fs ats n) (hl : x.lens) (R : Ending → World → Prop)
    (hR : ∀ w' b3 b7 b5 b4, Below w.heap.size w w' → w.heap.size ≤ b3 → w.heap.size ≤ b7 → w.heap.size ≤ b5 → w.heap.size ≤ b4 → Blk w' b3 [.pointer (some ⟨B, 0, none⟩)] 46 → Blk w' b7 [.int .i64 (idOf ats x.attr)] 2 → Blk w' b5 [.bool x.wild, .string ⟨x.attr.toArray⟩, .bool x.back, .int .i64 x.limit, .bool x.has, .int .i64 x.dflt.kind, .int .i64 x.dflt.n, .string ⟨x.dflt.s.toArray⟩, .bool x.nested, .slice xp x.sub.length xc, .int .i64 x.rc] 66 → Blk w' b4 [.int .i64 e] 2 →
      R (.returned (.func (.func 71) #[] #[.pointer (some ⟨b3, 0, none⟩), .pointer (some ⟨b7, 0, none⟩), .pointer (some ⟨b5, 0, none⟩), .pointer (some ⟨b4, 0, none⟩)])) w') :
    Calls Try.prog 47 #[.pointer (some ⟨B, 0, none⟩), .int .i64 e, .agg #[.bool x.wild, .string ⟨x.attr.toArray⟩, .bool x.back, .int .i64 x.limit, .bool x.has, .int .i64 x.dflt.kind, .int .i64 x.dflt.n, .string ⟨x.dflt.s.toArray⟩, .bool x.nested, .slice xp x.sub.length xc, .int .i64 x.rc]] w R := by
  have HR := Lib.hid hR
  have HP := Lib.hid hP
  have Hlens := Lib.hid hl
  have h1 := alloc_below w (.cells #[.pointer (some ⟨B, 0, none⟩)] 46)
  have b1 := Blk.new w [.pointer (some ⟨B, 0, none⟩)] 46 rfl
  have s1 : (w.alloc (.cells #[.pointer (some ⟨B, 0, none⟩)] 46)).heap.size = w.heap.size + 1 := by simp
  have h2 := alloc_below (w.alloc (.cells #[.pointer (some ⟨B, 0, none⟩)] 46)) (.cells #[.int .i64 e] 2)
  have b2 := Blk.new (w.alloc (.cells #[.pointer (some ⟨B, 0, none⟩)] 46)) [.int .i64 e] 2 rfl
  have s2 : ((w.alloc (.cells #[.pointer (some ⟨B, 0, none⟩)] 46)).alloc (.cells #[.int .i64 e] 2)).heap.size = w.heap.size + 1 + 1 := by simp
  have h3 := alloc_below ((w.alloc (.cells #[.pointer (some ⟨B, 0, none⟩)] 46)).alloc (.cells #[.int .i64 e] 2)) (.cells #[.bool x.wild, .string ⟨x.attr.toArray⟩, .bool x.back, .int .i64 x.limit, .bool x.has, .int .i64 x.dflt.kind, .int .i64 x.dflt.n, .string ⟨x.dflt.s.toArray⟩, .bool x.nested, .slice xp x.sub.length xc, .int .i64 x.rc] 66)
  have b3 := Blk.new ((w.alloc (.cells #[.pointer (some ⟨B, 0, none⟩)] 46)).alloc (.cells #[.int .i64 e] 2)) [.bool x.wild, .string ⟨x.attr.toArray⟩, .bool x.back, .int .i64 x.limit, .bool x.has, .int .i64 x.dflt.kind, .int .i64 x.dflt.n, .string ⟨x.dflt.s.toArray⟩, .bool x.nested, .slice xp x.sub.length xc, .int .i64 x.rc] 66 rfl
  rw [s1] at b2 h2
  rw [s2] at b3 h3
  have b1 := (b1.below h2 (by omega)).below h3 (by omega)
  have b2 := b2.below h3 (by omega)
  have hB3 : Below w.heap.size w (((w.alloc (.cells #[.pointer (some ⟨B, 0, none⟩)] 46)).alloc (.cells #[.int .i64 e] 2)).alloc (.cells #[.bool x.wild, .string ⟨x.attr.toArray⟩, .bool x.back, .int .i64 x.limit, .bool x.has, .int .i64 x.dflt.kind, .int .i64 x.dflt.n, .string ⟨x.dflt.s.toArray⟩, .bool x.nested, .slice xp x.sub.length xc, .int .i64 x.rc] 66)) := (h1.trans (h2.mono (by omega))).trans (h3.mono (by omega))
  clear hR hP hl h1 h2 h3 s1 s2
  go_enter Try.func47, Try.ntmps47
  go_upto_region 1 with fail
  generalize ((w.alloc (.cells #[.pointer (some ⟨B, 0, none⟩)] 46)).alloc (.cells #[.int .i64 e] 2)).alloc (.cells #[.bool x.wild, .string ⟨x.attr.toArray⟩, .bool x.back, .int .i64 x.limit, .bool x.has, .int .i64 x.dflt.kind, .int .i64 x.dflt.n, .string ⟨x.dflt.s.toArray⟩, .bool x.nested, .slice xp x.sub.length xc, .int .i64 x.rc] 66) = w1 at *
  obtain ⟨q3, eb3⟩ : ∃ b, b = w.heap.size := ⟨_, rfl⟩
  rw [← eb3] at b1 b2 b3 ⊢
  obtain ⟨q4, eb4⟩ : ∃ b, b = q3 + 1 := ⟨_, rfl⟩
  rw [← eb4] at b2 b3 ⊢
  obtain ⟨q5, eb5⟩ : ∃ b, b = q4 + 1 := ⟨_, rfl⟩
  rw [← eb5] at b3 ⊢
  have Hb3 := Lib.hid b1
  have Hb4 := Lib.hid b2
  have Hb5 := Lib.hid b3
  have HB1 := Lib.hid hB3
  have HP1 := Lib.hid (HP.out.below hB3)
  have hle : Hid (w.heap.size ≤ q3 ∧ w.heap.size ≤ q4 ∧ w.heap.size ≤ q5) := Lib.hid (by omega)
  have hz1 := hB3.size
  clear b1 b2 b3 eb3 eb4 eb5 hB3
  refine wp_region_held_drew (S := fun w' => Below w1.heap.size w1 w') (by kernel_rfl) (Below.refl _ _).drew (fun hHeld => ?_)
  refine wpAnyH_take (i := 0) (v := .pointer (some ⟨B, 0, none⟩)) rfl (by kernel_rfl) (by kernel_rfl) (by kernel_rfl) (fun _ _ _ h => h) (Or.inl ⟨by rfl, ?_⟩) hHeld ?_
  · intro w' hSw; have k0 := (Hb3.out.below hSw Hb3.out.lt).cells.c1; go_simp
  try simp only [ν1, ν2, ν3, ν4, ν5, ν6, ν7, ν8]
  refine wpAnyH_take (i := 1) (v := .pointer (some ⟨B, 0, none⟩)) rfl (by kernel_rfl) (by kernel_rfl) (by kernel_rfl) (fun _ _ _ h => h) (Or.inl ⟨by rfl, ?_⟩) hHeld ?_
  · intro w' hSw; go_simp
  try simp only [ν1, ν2, ν3, ν4, ν5, ν6, ν7, ν8]
  refine wpAnyH_take (i := 2) (v := .pointer (some ⟨B, 1, none⟩)) rfl (by kernel_rfl) (by kernel_rfl) (by kernel_rfl) (fun _ _ _ h => h) (Or.inl ⟨by rfl, ?_⟩) hHeld ?_
  · intro w' hSw; go_simp
  try simp only [ν1, ν2, ν3, ν4, ν5, ν6, ν7, ν8]
  refine wpAnyH_take (i := 3) (v := .map (some M)) rfl (by kernel_rfl) (by kernel_rfl) (by kernel_rfl) (fun _ _ _ h => h) (Or.inl ⟨by rfl, ?_⟩) hHeld ?_
  · intro w' hSw; have k1 := (HP1.out.below hSw).blk.cells 1 _ rfl; simp only [Nat.zero_add] at k1; go_simp
  try simp only [ν1, ν2, ν3, ν4, ν5, ν6, ν7, ν8]
  refine wpAnyH_take (i := 4) (v := .pointer (some ⟨q5, 1, none⟩)) rfl (by kernel_rfl) (by kernel_rfl) (by kernel_rfl) (fun _ _ _ h => h) (Or.inl ⟨by rfl, ?_⟩) hHeld ?_
  · intro w' hSw; go_simp
  try simp only [ν1, ν2, ν3, ν4, ν5, ν6, ν7, ν8]
  refine wpAnyH_take (i := 5) (v := .string ⟨x.attr.toArray⟩) rfl (by kernel_rfl) (by kernel_rfl) (by kernel_rfl) (fun _ _ _ h => h) (Or.inl ⟨by rfl, ?_⟩) hHeld ?_
  · intro w' hSw; obtain ⟨k0, k1, k2, k3, k4, k5, k6, k7, k8, k9, k10⟩ := item_cells (Hb5.out.below hSw Hb5.out.lt).cells; simp only [Nat.zero_add] at k1; go_simp
  try simp only [ν1, ν2, ν3, ν4, ν5, ν6, ν7, ν8]
  refine wpAnyH_take (i := 6) (v := .int .i64 ((idOf ats x.attr))) rfl (by kernel_rfl) (by kernel_rfl) (by kernel_rfl) (fun _ _ _ h => h) (Or.inl ⟨by rfl, ?_⟩) hHeld ?_
  · intro w' hSw; have kq := (HP1.out.below hSw).names.look Hlens.out.1; go_simp
  try simp only [ν1, ν2, ν3, ν4, ν5, ν6, ν7, ν8]
  refine wpAnyH_ready (rs := [7]) (by kernel_rfl) (by simp) ?_
  refine allVal (v := .pointer (some ⟨w1.drew.heap.size, 0, none⟩)) (w' := w1.drew.alloc (.cells #[.int .i64 0] 2)) rfl (by kernel_rfl) (by go_simp) (hHeld.trans ((alloc_below w1.drew (.cells #[.int .i64 0] 2)).mono hHeld.size)) ?_ AllReadyH.nil
  have hB := alloc_below w1.drew (.cells #[.int .i64 0] 2)
  have hbn := Blk.new w1.drew [.int .i64 0] 2 rfl
  generalize w1.drew.alloc (.cells #[.int .i64 0] 2) = wa at *
  obtain ⟨b7, eb⟩ : ∃ b, b = w1.drew.heap.size := ⟨_, rfl⟩
  rw [← eb] at hbn ⊢
  have hb7 : w1.heap.size ≤ b7 := by rw [eb]; exact hHeld.size
  clear eb
  have hHeld2 := hHeld.trans (hB.mono hHeld.size)
  clear hHeld hB
  have hHeld := hHeld2
  clear hHeld2
  try simp only [ν1, ν2, ν3, ν4, ν5, ν6, ν7, ν8]
  refine wpAnyH_ready (rs := [8]) (by kernel_rfl) (by simp) ?_
  have z0 := hbn.cells.c1
  have zl := hbn.lt
  have zf := hbn.free 0
  refine allSkip (w' := (wa.setCell ⟨b7, 0, none⟩ (.int .i64 (idOf ats x.attr)))) rfl (by kernel_rfl) (by go_simp) (hHeld.setCell (p := ⟨b7, 0, none⟩) hb7 _) ?_ AllReadyH.nil
  have hHeld2 := hHeld.setCell (p := ⟨b7, 0, none⟩) hb7 (.int .i64 (idOf ats x.attr))
  replace hbn := hbn.set 0 (.int .i64 (idOf ats x.attr))
  clear hHeld z0 zl zf
  have hHeld := hHeld2
  clear hHeld2
  try simp only [ν1, ν2, ν3, ν4, ν5, ν6, ν7, ν8]
  refine wpAnyH_done (by kernel_rfl) ?_ _
  have hB7 := hHeld
  clear hHeld
  generalize (wa.setCell ⟨b7, 0, none⟩ (.int .i64 (idOf ats x.attr))) = w7 at *
  have Hr := Lib.hid (HR.out w7 q3 b7 q5 q4 (HB1.out.trans (hB7.mono hz1)) hle.out.1 (by omega) hle.out.2.2 hle.out.2.1 (Hb3.out.below hB7 Hb3.out.lt) hbn (Hb5.out.below hB7 Hb5.out.lt) (Hb4.out.below hB7 Hb4.out.lt))
  clear hB7 hbn
  go_wp2_with fail
  first | exact Hr.out | exact fin Hr.out rfl

set_option maxRecDepth 100000 in
set_option maxHeartbeats 16000000 in
/-- The iterator: J holds between the rounds, of the values told so far. -/
theorem vals1_any (m L b3 b7 b5 b4 B lo hi : Nat) (fs : List Ft) (ats : List Attr) (e : Int) (x : It) (xp : Option Addr) (xc : Nat) (lv : Value) (J : Nat → World → Prop) (Z : World → Prop) (W0 : World)
    (hJF : ∀ i W, J i W → Blk W b3 [.pointer (some ⟨B, 0, none⟩)] 46 ∧ Blk W b7 [.int .i64 (idOf ats x.attr)] 2 ∧ Blk W b5 [.bool x.wild, .string ⟨x.attr.toArray⟩, .bool x.back, .int .i64 x.limit, .bool x.has, .int .i64 x.dflt.kind, .int .i64 x.dflt.n, .string ⟨x.dflt.s.toArray⟩, .bool x.nested, .slice xp x.sub.length xc, .int .i64 x.rc] 66 ∧ Blk W b4 [.int .i64 e] 2 ∧ W.cell? ⟨B, 0, none⟩ = some lv ∧ Fts lo hi W lv fs ∧ hi ≤ W.heap.size)
    (hJB : ∀ i W W', J i W → Below W.heap.size W W' → J i W')
    (hY : ∀ i W u, J i W → (valuesP fs ats e x)[i]? = some u → YieldAt Fence.wide m Try.prog L #[.agg #[.int .i64 u.kind, .int .i64 u.n, .string ⟨u.s.toArray⟩]] W (fun e' W' => (e' = .returned (.bool true) ∧ J (i + 1) W') ∨ (e' = .returned (.bool false) ∧ Z W')))
    (hJ0 : J 0 W0) :
    CallsIn Fence.wide (m + 1) Try.prog 71 #[.func (.yield L) #[] #[], .pointer (some ⟨b3, 0, none⟩), .pointer (some ⟨b7, 0, none⟩), .pointer (some ⟨b5, 0, none⟩), .pointer (some ⟨b4, 0, none⟩)] W0 (fun e' W' => (∃ v, e' = .returned v) ∧ (J (valuesP fs ats e x).length W' ∨ Z W')) := by
  have HJF := Lib.hid hJF
  have HJB := Lib.hid hJB
  have HY := Lib.hid hY
  obtain ⟨f1, f2, f3, f4, f5, f6, f7⟩ := hJF 0 W0 hJ0
  have HJ0 := Lib.hid hJ0
  have hl63 := f6.len
  obtain ⟨al, cl, rfl, -⟩ := f6.form
  have c3 := f1.cells.c1
  clear hJF hJB hY hJ0 f1 f2 f3 f4 f6 f7
  refine callsIn_of_wp Try.func71 rfl trivial ?_ rfl
  simp only [Try.ntmps71, List.size_toArray, List.length_cons, Nat.reduceAdd, Nat.reduceSub, Array.replicate_succ, Array.replicate_zero, List.push_toArray, List.append_toArray, List.nil_append, List.cons_append, List.length_nil]
  refine wpIn_wide.2 ?_
  go_wp2_with fail
  clear c3 f5
  go_loopw [13] (fun t13 wr => ∃ k : Nat, k ≤ fs.length ∧ t13 = .int .i64 k ∧ J (valuesP (fs.take k) ats e x).length wr) (fun t13 _ => fs.length - (intOf t13).toNat)
  case atStart => exact ⟨0, Nat.zero_le _, rfl, by simpa [valuesP] using HJ0.out⟩
  case round =>
    obtain ⟨k, hk, rfl, hj⟩ := hrel
    obtain ⟨wo, ewo⟩ : ∃ x, x = wr := ⟨_, rfl⟩
    subst ewo
    have kk0 : (0 : Int) ≤ (k : Int) := by omega
    obtain ⟨i, hi0⟩ : ∃ i, i = (valuesP (fs.take k) ats e x).length := ⟨_, rfl⟩
    rw [← hi0] at hj
    have Hi := Lib.hid hi0
    have Hj := Lib.hid hj
    clear hj hi0
    by_cases hlt : k < fs.length
    · have kkl : (k : Int) < (fs.length : Int) := by omega
      obtain ⟨f1, f2, f3, f4, f5, f6, f7⟩ := HJF.out i wo Hj.out
      obtain ⟨ao', cap', e', -, -, -, hc⟩ := f6.form
      injection e' with e1 e2 e3
      subst e1 e3
      obtain ⟨b, off, rfl, hb1, hb2, hcc⟩ := hc k hlt
      obtain ⟨cs, _, hcs, sv, rfl, hsv⟩ := hcc k hlt
      obtain ⟨asv, csv, rfl, -, -, -, -⟩ := hsv.form
      obtain ⟨h0, h1, h2, h3, h4, h5⟩ := hcs.f6
      have Hst : Hid (valuesP (fs.take (k + 1)) ats e x = valuesP (fs.take k) ats e x ++ (valueP (idOf ats x.attr) e x.back fs[k]).toList) := Lib.hid (valuesP_take fs ats e x hlt)
      have Hsp : Hid (∃ r, valuesP fs ats e x = valuesP (fs.take (k + 1)) ats e x ++ r) := Lib.hid ⟨valuesP (fs.drop (k + 1)) ats e x, by unfold valuesP; rw [← List.filterMap_append, List.take_append_drop]⟩
      clear hcs hc hcc hsv f1 f2 f3 f4 f5 f6 f7 e2
      generalize fs[k] = f at *
      have hBf := alloc_below wo (.cells #[.int .i64 f.e, .int .i64 f.a, .int .i64 f.v.kind, .int .i64 f.v.n, .string ⟨f.v.s.toArray⟩, .slice asv f.sp.length csv] 42)
      have hbf := Blk.new wo [.int .i64 f.e, .int .i64 f.a, .int .i64 f.v.kind, .int .i64 f.v.n, .string ⟨f.v.s.toArray⟩, .slice asv f.sp.length csv] 42 rfl
      go_upto_region 3 with fail
      generalize wo.alloc (.cells #[.int .i64 f.e, .int .i64 f.a, .int .i64 f.v.kind, .int .i64 f.v.n, .string ⟨f.v.s.toArray⟩, .slice asv f.sp.length csv] 42) = wf at *
      obtain ⟨bf, ebf⟩ : ∃ b, b = wo.heap.size := ⟨_, rfl⟩
      rw [← ebf] at hbf ⊢
      have Hj1 := Lib.hid (HJB.out i wo wf Hj.out hBf)
      obtain ⟨f1, f2, f3, f4, f5, f6, f7⟩ := HJF.out i wf Hj1.out
      clear h0 h1 h2 h3 h4 h5 hBf ebf f5 f6 f7
      obtain ⟨h0, h1, h2, h3, h4, -⟩ := hbf.cells.f6
      have d7 := f2.cells.c1
      have d4 := f4.cells.c1
      obtain ⟨x0, x1, x2, x3, x4, x5, x6, x7, x8, x9, x10⟩ := item_cells f3.cells
      simp only [Nat.zero_add] at h1 h2 h3 h4 x2
      clear hbf f1 f2 f3 f4 x0 x1 x3 x4 x5 x6 x7 x8 x9 x10
      obtain ⟨aid, haid⟩ : ∃ aid, aid = idOf ats x.attr := ⟨_, rfl⟩
      rw [← haid] at d7 Hst
      clear haid
      obtain ⟨bk, hbk⟩ : ∃ bk, bk = x.back := ⟨_, rfl⟩
      rw [← hbk] at x2 Hst
      clear hbk
      by_cases ha : f.a = aid
      · have ha2 : (f.a != aid) = false := by simpa using ha
        cases bk with
        | false =>
          by_cases he : f.e = e
          · have Hv : Hid (valuesP (fs.take (k + 1)) ats e x = valuesP (fs.take k) ats e x ++ [f.v]) := Lib.hid (by rw [Hst.out]; unfold valueP; rw [if_neg (fun h => h ha), if_pos rfl, if_pos he]; rfl)
            have he2 : (f.e == e) = true := by simpa using he
            clear ha he
            have Hget : Hid ((valuesP fs ats e x)[i]? = some f.v) := Lib.hid (by
              obtain ⟨r, hr⟩ := Hsp.out
              rw [hr, Hv.out, Hi.out]
              simp)
            have Hln : Hid ((valuesP (fs.take (k + 1)) ats e x).length = i + 1) := Lib.hid (by rw [Hv.out, List.length_append, ← Hi.out]; rfl)
            obtain ⟨yf, yt, ya, yb, hy, hRR⟩ := HY.out i wf f.v Hj1.out Hget.out
            go_upto_region 5 with fail
            refine (wpIn_wide (n := m + 1)).1 ?_
            gi_wp2_with fail
            refine hRR.mono ?_
            rintro e' W3 (⟨rfl, hj3⟩ | ⟨rfl, hz3⟩)
            · have Hj3 := Lib.hid hj3
              clear hj3 hRR hy h0 h1 h2 h3 h4 d7 d4 x2
              gi_wp2_with fail
              go_wp2_with fail
              go_roundw
              case rel => exact ⟨k + 1, by omega, by go_num, by rw [Hln.out]; exact Hj3.out⟩
              case measure => simp [intOf]; omega
            · have Hz3 := Lib.hid hz3
              clear hz3 hRR hy h0 h1 h2 h3 h4 d7 d4 x2
              gi_wp2_with fail
              go_wp2_with fail
              first | exact bodyPost_ret (results_none rfl _ _ _) rfl ⟨⟨_, rfl⟩, .inr Hz3.out⟩ | (go_end0; exact ⟨⟨_, rfl⟩, .inr Hz3.out⟩)
          · have Hv : Hid (valuesP (fs.take (k + 1)) ats e x = valuesP (fs.take k) ats e x) := Lib.hid (by rw [Hst.out]; unfold valueP; rw [if_neg (fun h => h ha), if_pos rfl, if_neg he]; simp)
            have he2 : (f.e == e) = false := by simpa using he
            clear ha he
            go_wp2_with fail
            go_roundw
            case rel => exact ⟨k + 1, by omega, by go_num, by rw [Hv.out, ← Hi.out]; exact Hj1.out⟩
            case measure => simp [intOf]; omega
        | true =>
          by_cases hk5 : f.v.kind = 5
          · have hk52 : (f.v.kind == 5) = true := by simpa using hk5
            by_cases hn : f.v.n = e
            · have hn2 : (f.v.n == e) = true := by simpa using hn
              have Hv : Hid (valuesP (fs.take (k + 1)) ats e x = valuesP (fs.take k) ats e x ++ [⟨5, f.e, []⟩]) := Lib.hid (by rw [Hst.out]; unfold valueP; rw [if_neg (fun h => h ha), if_neg (by decide), if_pos ⟨hk5, hn⟩]; rfl)
              clear ha hk5 hn
              have Hget : Hid ((valuesP fs ats e x)[i]? = some ⟨5, f.e, []⟩) := Lib.hid (by
                obtain ⟨r, hr⟩ := Hsp.out
                rw [hr, Hv.out, Hi.out]
                simp)
              have Hln : Hid ((valuesP (fs.take (k + 1)) ats e x).length = i + 1) := Lib.hid (by rw [Hv.out, List.length_append, ← Hi.out]; rfl)
              obtain ⟨yf, yt, ya, yb, hy, hRR⟩ := HY.out i wf ⟨5, f.e, []⟩ Hj1.out Hget.out
              go_upto_region 7 with fail
              refine (wpIn_wide (n := m + 1)).1 ?_
              gi_wp2_with fail
              refine hRR.mono ?_
              rintro e' W3 (⟨rfl, hj3⟩ | ⟨rfl, hz3⟩)
              · have Hj3 := Lib.hid hj3
                clear hj3 hRR hy h0 h1 h2 h3 h4 d7 d4 x2
                gi_wp2_with fail
                go_wp2_with fail
                go_roundw
                case rel => exact ⟨k + 1, by omega, by go_num, by rw [Hln.out]; exact Hj3.out⟩
                case measure => simp [intOf]; omega
              · have Hz3 := Lib.hid hz3
                clear hz3 hRR hy h0 h1 h2 h3 h4 d7 d4 x2
                gi_wp2_with fail
                go_wp2_with fail
                first | exact bodyPost_ret (results_none rfl _ _ _) rfl ⟨⟨_, rfl⟩, .inr Hz3.out⟩ | (go_end0; exact ⟨⟨_, rfl⟩, .inr Hz3.out⟩)
            · have hn2 : (f.v.n == e) = false := by simpa using hn
              have Hv : Hid (valuesP (fs.take (k + 1)) ats e x = valuesP (fs.take k) ats e x) := Lib.hid (by rw [Hst.out]; unfold valueP; rw [if_neg (fun h => h ha), if_neg (by decide), if_neg (fun h => hn h.2)]; simp)
              clear ha hk5 hn
              go_wp2_with fail
              go_roundw
              case rel => exact ⟨k + 1, by omega, by go_num, by rw [Hv.out, ← Hi.out]; exact Hj1.out⟩
              case measure => simp [intOf]; omega
          · have hk52 : (f.v.kind == 5) = false := by simpa using hk5
            have Hv : Hid (valuesP (fs.take (k + 1)) ats e x = valuesP (fs.take k) ats e x) := Lib.hid (by rw [Hst.out]; unfold valueP; rw [if_neg (fun h => h ha), if_neg (by decide), if_neg (fun h => hk5 h.1)]; simp)
            clear ha hk5
            go_wp2_with fail
            go_roundw
            case rel => exact ⟨k + 1, by omega, by go_num, by rw [Hv.out, ← Hi.out]; exact Hj1.out⟩
            case measure => simp [intOf]; omega
      · have ha2 : (f.a != aid) = true := by simpa using ha
        have Hv : Hid (valuesP (fs.take (k + 1)) ats e x = valuesP (fs.take k) ats e x) := Lib.hid (by rw [Hst.out]; unfold valueP; rw [if_pos ha]; simp)
        clear ha
        go_wp2_with fail
        go_roundw
        case rel => exact ⟨k + 1, by omega, by go_num, by rw [Hv.out, ← Hi.out]; exact Hj1.out⟩
        case measure => simp [intOf]; omega
    · obtain rfl : k = fs.length := by omega
      have llt : ¬ ((fs.length : Nat) : Int) < (fs.length : Int) := by omega
      have Hfin : Hid (J (valuesP fs ats e x).length wo) := Lib.hid (by have h := Hj.out; rw [Hi.out, List.take_length] at h; exact h)
      clear hk
      go_wp2_with fail
      go_end0
      exact ⟨⟨_, rfl⟩, .inl Hfin.out⟩
end Go.Proofs.Yticbhfmpnmolcaa
end
