/- schema.Alter and the document's answer: each finds, for every elder attribute, one of the new ones with its number, name and type. -/
import Derived.Test.YtkcpanaojehgiaaProg
import Derived.Test.YtkcpanaojehgiaaBase
namespace Go.Proofs.Ytkcpanaojehgiaa
open Go.RowKit

structure Attr where
  id : Int
  name : List UInt8
  type : Int
  many : Bool
  unique : Int
  part : Bool
  index : Bool
def Attr.enc (a : Attr) : List Value := [.int .i64 a.id, .string ⟨a.name.toArray⟩, .int .i64 a.type, .bool a.many, .int .i64 a.unique, .bool a.part, .bool a.index]
abbrev Attrs := Sl (flat Attr.enc) 7
theorem Attrs.loc : Loc (flat Attr.enc) := flat_loc _

/-- An index, or -1. -/
def oidx : Option Nat → Int
  | some i => i
  | none => -1

set_option maxRecDepth 100000 in
set_option maxHeartbeats 400000 in
/-- slices.IndexFunc over attributes, whatever is asked of each. -/
theorem IndexFunc_attr (lo hi : Nat) (v : Value) (xs : List Attr) (f : FuncId) (capt : Array Value) (p : Attr → Bool) (w : World) (hv : Attrs lo hi w v xs) (hhi : hi ≤ w.heap.size)
    (he : ∀ args w, (callFunc f args).run Try.prog w = .ok (.enter f args) w)
    (hp : ∀ a w' R, Below w.heap.size w w' → (∀ w'', Below w'.heap.size w' w'' → R (.returned (.bool (p a))) w'') →
      Calls Try.prog f (#[.agg #[.int .i64 a.id, .string ⟨a.name.toArray⟩, .int .i64 a.type, .bool a.many, .int .i64 a.unique, .bool a.part, .bool a.index]] ++ capt) w' R)
    (R : Ending → World → Prop) (hR : ∀ o w', o = xs.findIdx? p → Below w.heap.size w w' → R (.returned (.int .i64 (oidx o))) w') :
    Calls Try.prog 56 #[v, .func (.func f) #[] capt] w R := by
  obtain ⟨ao, cap, rfl, hl1, hl2, _, hc⟩ := hv.form
  go_enter Try.func56, Try.ntmps56
  go_wp2
  go_loopw [5, 8] (fun t5 t8 wr => ∃ k : Nat, k ≤ xs.length ∧ t8 = .int .i64 k ∧ (∀ i (h : i < k) (h' : i < xs.length), p xs[i] = false) ∧ Below w.heap.size w wr) (fun _ t8 _ => xs.length - (intOf t8).toNat)
  case atStart => exact ⟨0, Nat.zero_le _, rfl, by intro i h; omega, Below.refl _ _⟩
  case round =>
    obtain ⟨k, hk, rfl, hno, hB⟩ := hrel
    have Hno := Lib.hid hno
    have Hp := Lib.hid hp
    have Hc := Lib.hid hc
    clear hno hp hc
    by_cases hlt : k < xs.length
    · obtain ⟨b, off, rfl, hb1, hb2, hcc⟩ := Hc.out k hlt
      obtain ⟨cs, _, hcs, rfl⟩ := hcc k hlt
      obtain ⟨h0, h1, h2, h3, h4, h5, h6⟩ := (hcs.agree (.below hB hhi) hb1 hb2).c7
      clear hcc hcs
      generalize hx : xs[k] = x at *
      have Hx := Lib.hid hx
      clear hx
      go_wp2_with fail
      refine Hp.out x _ _ hB ?_
      intro w1 hB1
      have hB2 := hB.trans (hB1.mono hB.size)
      cases hpx : p x
      · go_wp2
        go_roundw
        case rel =>
          refine ⟨k + 1, by omega, by go_num, ?_, hB2⟩
          intro i h h'
          by_cases e : i = k
          · subst e; rw [Hx.out]; exact hpx
          · exact Hno.out i (by omega) h'
        case measure => simp [intOf]; omega
      · go_wp2
        exact hR (some k) _ (by
          symm
          rw [List.findIdx?_eq_some_iff_getElem]
          exact ⟨hlt, by rw [Hx.out]; exact hpx, fun j hj => by simpa using Hno.out j hj (by omega)⟩) hB2
    · go_wp2
      exact hR none _ (by
        symm
        rw [List.findIdx?_eq_none_iff]
        intro x hx
        obtain ⟨i, hi, rfl⟩ := List.getElem_of_mem hx
        exact Hno.out i (by omega) hi) hB

set_option maxRecDepth 100000 in
set_option maxHeartbeats 400000 in
/-- slices.ContainsFunc over attributes. -/
theorem ContainsFunc_attr (lo hi : Nat) (v : Value) (xs : List Attr) (f : FuncId) (capt : Array Value) (p : Attr → Bool) (w : World) (hv : Attrs lo hi w v xs) (hhi : hi ≤ w.heap.size)
    (he : ∀ args w, (callFunc f args).run Try.prog w = .ok (.enter f args) w)
    (hp : ∀ a w' R, Below w.heap.size w w' → (∀ w'', Below w'.heap.size w' w'' → R (.returned (.bool (p a))) w'') →
      Calls Try.prog f (#[.agg #[.int .i64 a.id, .string ⟨a.name.toArray⟩, .int .i64 a.type, .bool a.many, .int .i64 a.unique, .bool a.part, .bool a.index]] ++ capt) w' R)
    (R : Ending → World → Prop) (hR : ∀ b w', b = xs.any p → Below w.heap.size w w' → R (.returned (.bool b)) w') :
    Calls Try.prog 30 #[v, .func (.func f) #[] capt] w R := by
  have HI := Lib.hid (IndexFunc_attr lo hi v xs f capt p w hv hhi he hp)
  obtain ⟨ao, cap, rfl, -⟩ := hv.form
  clear hp
  go_enter Try.func30, Try.ntmps30
  go_wp2_with fail
  refine HI.out _ ?_
  intro o w1 ho hB
  have Ho := Lib.hid ho
  clear ho
  cases o with
  | none =>
    simp only [oidx]
    go_wp2
    exact hR false _ (by
      have := List.findIdx?_eq_none_iff.1 Ho.out.symm
      symm
      rw [List.any_eq_false]
      simpa using this) hB
  | some i =>
    simp only [oidx]
    go_wp2
    exact hR true _ (by
      obtain ⟨h, h1, -⟩ := List.findIdx?_eq_some_iff_getElem.1 Ho.out.symm
      symm
      rw [List.any_eq_true]
      exact ⟨xs[i], List.getElem_mem h, h1⟩) hB

def Attr.keeps (a b : Attr) : Bool := a.id == b.id && a.name == b.name && a.type == b.type
def altered (old now : List Attr) : Int := if old.all fun a => now.any fun b => a.keeps b then 0 else 77

set_option maxRecDepth 100000 in
set_option maxHeartbeats 400000 in
theorem Alter_1 (a b : Attr) (B : Nat) (w : World) (hB : B < w.heap.size) (h : CellsAt w B 0 a.enc) (R : Ending → World → Prop) (hR : ∀ w', Below w.heap.size w w' → R (.returned (.bool (a.keeps b))) w') :
    Calls Try.prog 31 #[.agg #[.int .i64 b.id, .string ⟨b.name.toArray⟩, .int .i64 b.type, .bool b.many, .int .i64 b.unique, .bool b.part, .bool b.index], .pointer (some ⟨B, 0, none⟩)] w R := by
  obtain ⟨h0, h1, h2, -⟩ := CellsAt.c7 h
  clear h
  go_enter Try.func31, Try.ntmps31
  go_wp2
  all_goals refine fin (hR _ ((Below.refl _ _).alloc (Nat.le_refl _) _)) ?_
  all_goals simp_all [Attr.keeps]

set_option maxRecDepth 100000 in
set_option maxHeartbeats 400000 in
/-- schema.Alter. -/
theorem Alter_any (lo hi : Nat) (v1 v2 : Value) (old now : List Attr) (w : World) (h1 : Attrs lo hi w v1 old) (h2 : Attrs lo hi w v2 now) (hhi : hi ≤ w.heap.size)
    (R : Ending → World → Prop) (hR : ∀ w', Below w.heap.size w w' → R (.returned (.int .i64 (altered old now))) w') :
    Calls Try.prog 9 #[v1, v2] w R := by
  obtain ⟨ao, cap, rfl, hl1, hl2, _, hc⟩ := h1.form
  have H2 := Lib.hid h2
  have Hc := Lib.hid hc
  clear h1 h2 hc
  go_enter Try.func9, Try.ntmps9
  go_wp2
  go_loopw [4, 6, 9] (fun _ _ t9 wr => ∃ k : Nat, k ≤ old.length ∧ t9 = .int .i64 k ∧ (∀ i (h : i < k) (h' : i < old.length), now.any (old[i].keeps ·) = true) ∧ Below w.heap.size w wr) (fun _ _ t9 _ => old.length - (intOf t9).toNat)
  case atStart => exact ⟨0, Nat.zero_le _, rfl, by intro i h; omega, Below.refl _ _⟩
  case round =>
    obtain ⟨k, hk, rfl, hyes, hB⟩ := hrel
    have Hyes := Lib.hid hyes
    clear hyes
    by_cases hlt : k < old.length
    · obtain ⟨b, off, rfl, hb1, hb2, hcc⟩ := Hc.out k hlt
      obtain ⟨cs, _, hcs, rfl⟩ := hcc k hlt
      obtain ⟨h0, h1, h2, h3, h4, h5, h6⟩ := (hcs.agree (.below hB hhi) hb1 hb2).c7
      clear hcc hcs
      generalize hx : old[k] = x at *
      have Hx := Lib.hid hx
      clear hx
      go_wp2_with fail
      have hB1 : Below w.heap.size w (wr.alloc (Obj.cells #[.int .i64 x.id, .string ⟨x.name.toArray⟩, .int .i64 x.type, .bool x.many, .int .i64 x.unique, .bool x.part, .bool x.index] 24)) := hB.alloc hB.size _
      have hc1 : CellsAt (wr.alloc (Obj.cells #[.int .i64 x.id, .string ⟨x.name.toArray⟩, .int .i64 x.type, .bool x.many, .int .i64 x.unique, .bool x.part, .bool x.index] 24)) wr.heap.size 0 x.enc :=
        CellsAt.new wr x.enc _
      refine ContainsFunc_attr lo hi v2 now 31 _ (x.keeps ·) _ (H2.out.below Attrs.loc hB1 hhi) (Nat.le_trans hhi hB1.size) (enters_of Try.func31 (by kernel_rfl) rfl) ?_ _ ?_
      · intro y w' R' hb' hR'
        exact Alter_1 x y wr.heap.size w' (Nat.lt_of_lt_of_le (by simp) hb'.size) (hc1.agree (.below hb' (Nat.le_refl _)) (Nat.zero_le _) (by simp)) R' hR'
      · intro c w1 hc hB2
        have hB3 := hB1.trans (hB2.mono hB1.size)
        have Hcc := Lib.hid hc
        clear hc hc1
        cases c
        · go_wp2
          exact fin (hR _ hB3) (by
            have : altered old now = 77 := by
              unfold altered
              rw [if_neg]
              intro h
              have := List.all_eq_true.1 h _ (List.getElem_mem hlt)
              rw [Hx.out, ← Hcc.out] at this
              cases this
            rw [this]; rfl)
        · go_wp2
          go_roundw
          case rel =>
            refine ⟨k + 1, by omega, by go_num, ?_, hB3⟩
            intro i h h'
            by_cases e : i = k
            · subst e; rw [Hx.out]; exact Hcc.out.symm
            · exact Hyes.out i (by omega) h'
          case measure => simp [intOf]; omega
    · go_wp2
      exact fin (hR _ hB) (by
        have : altered old now = 0 := by
          unfold altered
          rw [if_pos]
          rw [List.all_eq_true]
          intro x hx
          obtain ⟨i, hi, rfl⟩ := List.getElem_of_mem hx
          exact Hyes.out i (by omega) hi
        rw [this]; rfl)

set_option maxRecDepth 100000 in
set_option maxHeartbeats 400000 in
/-- the document's Alter. -/
theorem refAlter_any (lo hi : Nat) (v1 v2 : Value) (old now : List Attr) (w : World) (h1 : Attrs lo hi w v1 old) (h2 : Attrs lo hi w v2 now) (hhi : hi ≤ w.heap.size)
    (R : Ending → World → Prop) (hR : ∀ w', Below w.heap.size w w' → R (.returned (.int .i64 (altered old now))) w') :
    Calls Try.prog 10 #[v1, v2] w R := by
  obtain ⟨ao, cap, rfl, hl1, hl2, _, hc⟩ := h1.form
  obtain ⟨ao2, cap2, rfl, hl3, hl4, _, hc2⟩ := h2.form
  have Hc := Lib.hid hc
  have Hc2 := Lib.hid hc2
  clear h1 h2 hc hc2
  go_enter Try.func10, Try.ntmps10
  go_wp2
  go_loopw [5, 6, 7] (fun t5 _ _ wr => ∃ k : Nat, k ≤ old.length ∧ t5 = .int .i64 k ∧ (∀ i (h : i < k) (h' : i < old.length), now.any (old[i].keeps ·) = true) ∧ Below w.heap.size w wr) (fun t5 _ _ _ => old.length - (intOf t5).toNat)
  case atStart => exact ⟨0, Nat.zero_le _, rfl, by intro i h; omega, Below.refl _ _⟩
  case round =>
    obtain ⟨k, hk, rfl, hyes, hB⟩ := hrel
    have Hyes := Lib.hid hyes
    clear hyes
    by_cases hlt : k < old.length
    · obtain ⟨b, off, rfl, hb1, hb2, hcc⟩ := Hc.out k hlt
      obtain ⟨cs, _, hcs, rfl⟩ := hcc k hlt
      have Hcs := Lib.hid hcs
      clear hcc hcs
      generalize hx : old[k] = x at *
      have Hx := Lib.hid hx
      clear hx
      go_wp2
      obtain ⟨wo, rfl⟩ : ∃ wo : World, wo = wr := ⟨_, rfl⟩
      go_loopw [6, 7] (fun t6 t7 wr => ∃ j : Nat, j ≤ now.length ∧ t7 = .int .i64 j ∧ t6 = .bool ((now.take j).any (x.keeps ·)) ∧ Below w.heap.size w wr) (fun _ t7 _ => now.length - (intOf t7).toNat)
      case atStart => exact ⟨0, Nat.zero_le _, rfl, rfl, hB⟩
      case round =>
        obtain ⟨j, hj, rfl, rfl, hB2⟩ := hrel
        by_cases hlt2 : j < now.length
        · obtain ⟨b2, off2, rfl, hb3, hb4, hcc⟩ := Hc2.out j hlt2
          obtain ⟨cs2, _, hcs2, rfl⟩ := hcc j hlt2
          obtain ⟨h0, h1, h2, -⟩ := (Hcs.out.agree (.below hB2 hhi) hb1 hb2).c7
          obtain ⟨g0, g1, g2, -⟩ := (hcs2.agree (.below hB2 hhi) hb3 hb4).c7
          clear hcc hcs2
          generalize hy : now[j] = y at *
          have Hy := Lib.hid hy
          clear hy
          generalize hm : (now.take j).any (x.keeps ·) = m at *
          have Hm := Lib.hid hm
          clear hm
          have hk1 : x.keeps y = (y.id == x.id && y.name == x.name && y.type == x.type) := by
            unfold Attr.keeps; rw [BEq.comm (a := x.id), BEq.comm (a := x.name), BEq.comm (a := x.type)]
          have Hk := Lib.hid hk1
          clear hk1
          cases m
          · by_cases e1 : (y.id == x.id) = true
            · by_cases e2 : (y.name == x.name) = true
              · go_wp2_with fail
                go_quiet (fail)
                go_wp2
                go_roundw
                case rel => exact ⟨j + 1, by omega, by go_num, by rw [any_take_succ _ _ _ hlt2, Hm.out, Hy.out]; rw [Hk.out]; simp [*], drewN hB2 _⟩
                case measure => simp [intOf]; omega
              · have e2' : (y.name == x.name) = false := by simpa using e2
                clear e2
                go_wp2_with fail
                go_quiet (fail)
                go_wp2
                go_roundw
                case rel => exact ⟨j + 1, by omega, by go_num, by rw [any_take_succ _ _ _ hlt2, Hm.out, Hy.out]; rw [Hk.out]; simp [*], drewN hB2 _⟩
                case measure => simp [intOf]; omega
            · have e1' : (y.id == x.id) = false := by simpa using e1
              clear e1
              go_wp2_with fail
              go_quiet (fail)
              go_wp2
              go_roundw
              case rel => exact ⟨j + 1, by omega, by go_num, by rw [any_take_succ _ _ _ hlt2, Hm.out, Hy.out]; rw [Hk.out]; simp [*], drewN hB2 _⟩
              case measure => simp [intOf]; omega
          · go_wp2_with fail
            go_quiet (fail)
            go_wp2
            go_roundw
            case rel => exact ⟨j + 1, by omega, by go_num, by rw [any_take_succ _ _ _ hlt2, Hm.out, Hy.out]; rw [Hk.out]; simp [*], drewN hB2 _⟩
            case measure => simp [intOf]; omega
        · have e : j = now.length := by omega
          subst e
          rw [List.take_length]
          cases hm : now.any (x.keeps ·)
          · have Hm := Lib.hid hm
            clear hm
            go_wp2
            exact fin (hR _ hB2) (by
              have : altered old now = 77 := by
                unfold altered
                rw [if_neg]
                intro h
                have := List.all_eq_true.1 h _ (List.getElem_mem hlt)
                rw [Hx.out, Hm.out] at this
                cases this
              rw [this]; rfl)
          · have Hm := Lib.hid hm
            clear hm
            go_wp2
            go_roundw
            case rel =>
              refine ⟨k + 1, by omega, by go_num, ?_, hB2⟩
              intro i h h'
              by_cases e : i = k
              · subst e; rw [Hx.out]; exact Hm.out
              · exact Hyes.out i (by omega) h'
            case measure => simp [intOf]; omega
    · go_wp2
      exact fin (hR _ hB) (by
        have : altered old now = 0 := by
          unfold altered
          rw [if_pos]
          rw [List.all_eq_true]
          intro x hx
          obtain ⟨i, hi, rfl⟩ := List.getElem_of_mem hx
          exact Hyes.out i (by omega) hi
        rw [this]; rfl)
end Go.Proofs.Ytkcpanaojehgiaa
