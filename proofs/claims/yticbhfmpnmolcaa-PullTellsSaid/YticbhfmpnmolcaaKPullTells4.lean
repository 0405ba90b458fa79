/- Texts that the proofs of PullTells stand on, part 4. -/
import Derived.Deep.Slices
import Derived.Test.YticbhfmpnmolcaaKPullTells3
/- The document's ByName and has. (Printed by pulf.py.) -/
section
set_option linter.unusedVariables false
set_option linter.unusedSimpArgs false
namespace Go.Proofs.Yticbhfmpnmolcaa
open Go.RowKit
set_option linter.unusedVariables false
set_option linter.unusedSimpArgs false
def zeroA : Attr := ⟨0, [], 0, false, 0, false, false⟩
def findA (xs : List Attr) (o : Option Nat) : Attr := match o with
  | some i => xs.getD i zeroA
  | none => zeroA
def byName (s : List UInt8) (a : Attr) : Bool := a.name == s
/-- A block of seven cells, all of them written. -/
def set7 (w : World) (b : Nat) (v0 v1 v2 v3 v4 v5 v6 : Value) : World :=
  ((((((w.setCell ⟨b, 0, none⟩ v0).setCell ⟨b, 1, none⟩ v1).setCell ⟨b, 2, none⟩ v2).setCell ⟨b, 3, none⟩ v3).setCell ⟨b, 4, none⟩ v4).setCell ⟨b, 5, none⟩ v5).setCell ⟨b, 6, none⟩ v6
theorem Blk.set7 {w : World} {b : Nat} {t : TypeId} {x0 x1 x2 x3 x4 x5 x6 : Value} (h : Blk w b [x0, x1, x2, x3, x4, x5, x6] t) (v0 v1 v2 v3 v4 v5 v6 : Value) : Blk (set7 w b v0 v1 v2 v3 v4 v5 v6) b [v0, v1, v2, v3, v4, v5, v6] t :=
  ((((((h.set 0 v0).set 1 v1).set 2 v2).set 3 v3).set 4 v4).set 5 v5).set 6 v6
theorem below_set7 {B : Nat} {w w' : World} (h : Below B w w') {b : Nat} (hb : B ≤ b) (v0 v1 v2 v3 v4 v5 v6 : Value) : Below B w (set7 w' b v0 v1 v2 v3 v4 v5 v6) :=
  ((((((h.setCell (p := ⟨b, 0, none⟩) hb v0).setCell (p := ⟨b, 1, none⟩) hb v1).setCell (p := ⟨b, 2, none⟩) hb v2).setCell (p := ⟨b, 3, none⟩) hb v3).setCell (p := ⟨b, 4, none⟩) hb v4).setCell (p := ⟨b, 5, none⟩) hb v5).setCell (p := ⟨b, 6, none⟩) hb v6
theorem Blk.runAttr {w : World} {b : Nat} {t : TypeId} {v0 v1 v2 v3 v4 v5 v6 : Value} (h : Blk w b [v0, v1, v2, v3, v4, v5, v6] t) : (loadVar 28 ⟨b, 0, none⟩).run Try.prog w = .ok (.agg #[v0, v1, v2, v3, v4, v5, v6]) w := h.cells.runVar (fun w => by kernel_rfl) (fun w => by kernel_rfl)
theorem findA_hit {xs : List Attr} {p : Attr → Bool} {k : Nat} (hk : k < xs.length) (hp : p xs[k] = true) (hno : ∀ i, i < k → p (xs.getD i zeroA) = false) : xs.findIdx? p = some k := by
  rw [List.findIdx?_eq_some_iff_getElem]
  exact ⟨hk, hp, fun j hj => by
    have := hno j hj
    rw [getD_at xs _ j (by omega)] at this
    simp [this]⟩
theorem findA_no {xs : List Attr} {p : Attr → Bool} (hno : ∀ i, i < xs.length → p (xs.getD i zeroA) = false) : xs.findIdx? p = none := by
  rw [List.findIdx?_eq_none_iff]
  intro x hx
  obtain ⟨i, hi, rfl⟩ := List.getElem_of_mem hx
  have := hno i hi
  rwa [getD_at xs _ i hi] at this
set_option maxRecDepth 100000 in
set_option maxHeartbeats 4000000 in
theorem refByName_any (lo hi : Nat) (v : Value) (xs : List Attr) (x : List UInt8) (w : World) (hv : Attrs lo hi w v xs) (hhi : hi ≤ w.heap.size) (R : Ending → World → Prop)
    (hR : ∀ w', Below w.heap.size w w' → R (.returned (.tuple #[.agg #[.int .i64 (findA xs (xs.findIdx? (byName x))).id, .string ⟨(findA xs (xs.findIdx? (byName x))).name.toArray⟩, .int .i64 (findA xs (xs.findIdx? (byName x))).type, .bool (findA xs (xs.findIdx? (byName x))).many, .int .i64 (findA xs (xs.findIdx? (byName x))).unique, .bool (findA xs (xs.findIdx? (byName x))).part, .bool (findA xs (xs.findIdx? (byName x))).index], .bool (xs.findIdx? (byName x)).isSome])) w') : Calls Try.prog 18 #[v, .string ⟨x.toArray⟩] w R := by
  have HR := Lib.hid hR
  have Hv := Lib.hid hv
  obtain ⟨ao, cap, rfl, hcl, hcm, -, -⟩ := hv.form
  clear hR hv
  have hB0 := alloc_below w (.cells #[.int .i64 0, .string ⟨#[]⟩, .int .i64 0, .bool false, .int .i64 0, .bool false, .bool false] 28)
  have hz0 := Blk.new w [.int .i64 0, .string ⟨#[]⟩, .int .i64 0, .bool false, .int .i64 0, .bool false, .bool false] 28 rfl
  go_enter Try.func18, Try.ntmps18
  go_upto_region 1 with fail
  generalize w.alloc (.cells #[.int .i64 0, .string ⟨#[]⟩, .int .i64 0, .bool false, .int .i64 0, .bool false, .bool false] 28) = w0 at *
  have hzl := hz0.lt
  have HB0 := Lib.hid hB0
  have Hz0 := Lib.hid hz0
  obtain ⟨z0, z1, z2, z3, z4, z5, z6⟩ := hz0.cells.c7
  have f1 := hz0.free
  obtain ⟨ao', cap', e', -, -, -, hc⟩ := (Sl.below Hv.out Attrs.loc hB0 hhi).form
  injection e' with e1 e2 e3
  subst e1 e3
  have Hc := Lib.hid hc
  clear hB0 hz0 hc
  go_wp2_with fail
  go_loop [6] (fun t6 => ∃ k : Nat, k ≤ xs.length ∧ t6 = .int .i64 k ∧ (∀ i, i < k → byName x (xs.getD i zeroA) = false)) (fun t6 => xs.length - (intOf t6).toNat)
  case atStart => exact ⟨0, Nat.zero_le _, rfl, fun i h => absurd h (Nat.not_lt_zero _)⟩
  case round =>
    obtain ⟨k, hk, rfl, hno⟩ := hrel
    have Hno := Lib.hid hno
    clear hno
    have kk0 : (0 : Int) ≤ (k : Int) := by omega
    by_cases hlt : k < xs.length
    · obtain ⟨b, off, rfl, hb1, hb2, hcc⟩ := Hc.out k hlt
      obtain ⟨cs, _, hcs, rfl⟩ := hcc k hlt
      obtain ⟨h0, h1, h2, h3, h4, h5, h6⟩ := hcs.c7
      have kkl : (k : Int) < (xs.length : Int) := by omega
      have Hx : Hid (xs.getD k zeroA = xs[k]) := Lib.hid (getD_at xs _ k hlt)
      have Hhit : Hid (byName x xs[k] = true → xs.findIdx? (byName x) = some k) := Lib.hid (fun h => findA_hit hlt h Hno.out)
      clear hcs hcc
      generalize xs[k] = y at *
      by_cases he : y.name = x
      · have H2 := HR.out
        rw [Hhit.out (by simp [byName, he])] at H2
        simp only [findA, Option.isSome_some, Hx.out] at H2
        have HR := Lib.hid H2
        clear H2
        have he2 : (y.name == x) = true := by simpa using he
        have He := Lib.hid he
        clear he
        have hr := HR.out (set7 w0 w.heap.size (.int .i64 y.id) (.string ⟨y.name.toArray⟩) (.int .i64 y.type) (.bool y.many) (.int .i64 y.unique) (.bool y.part) (.bool y.index)) (below_set7 HB0.out (Nat.le_refl _) _ _ _ _ _ _ _)
        have hrv := (Blk.set7 Hz0.out (.int .i64 y.id) (.string ⟨y.name.toArray⟩) (.int .i64 y.type) (.bool y.many) (.int .i64 y.unique) (.bool y.part) (.bool y.index)).runAttr
        unfold set7 at hr hrv
        have Hr := Lib.hid hr
        have Hrv := Lib.hid hrv
        clear hr hrv
        go_wp2_with fail
        exact ret_cell_tmp rfl rfl Hrv.out rfl rfl Hr.out
      · have he2 : (y.name == x) = false := by simpa using he
        go_wp2_with fail
        go_round
        case rel => exact ⟨k + 1, by omega, by go_num, fun i hi => by
          by_cases e : i = k
          · subst e; rw [Hx.out]; exact he2
          · exact Hno.out i (by omega)⟩
        case measure => simp [intOf]; omega
    · obtain rfl : k = xs.length := by omega
      have H2 := HR.out
      rw [findA_no Hno.out] at H2
      simp only [findA, Option.isSome_none] at H2
      have HR := Lib.hid H2
      clear H2
      have hr := HR.out (set7 w0 w.heap.size (.int .i64 0) (.string ⟨#[]⟩) (.int .i64 0) (.bool false) (.int .i64 0) (.bool false) (.bool false)) (below_set7 HB0.out (Nat.le_refl _) _ _ _ _ _ _ _)
      have hrv := (Blk.set7 Hz0.out (.int .i64 0) (.string ⟨#[]⟩) (.int .i64 0) (.bool false) (.int .i64 0) (.bool false) (.bool false)).runAttr
      unfold set7 at hr hrv
      have Hr := Lib.hid hr
      have Hrv := Lib.hid hrv
      clear hr hrv
      go_wp2_with fail
      exact ret_cell_tmp rfl rfl Hrv.out rfl rfl Hr.out
def inE (n : Int) : List Value := [.int .i64 n]
abbrev Ints := Sl (flat inE) 1
theorem Ints.loc : Loc (flat inE) := flat_loc _
set_option maxRecDepth 100000 in
set_option maxHeartbeats 4000000 in
theorem has_any (lo hi : Nat) (l : List Int) (e : Int) (v : Value) (w : World) (hv : Ints lo hi w v l) (R : Ending → World → Prop) (hR : R (.returned (.bool (l.contains e))) w) : Calls Try.prog 60 #[v, .int .i64 e] w R := by
  have HR := Lib.hid hR
  obtain ⟨ao, cap, rfl, hcl, hcm, -, hc⟩ := hv.form
  have hl63 := hv.len
  have Hc := Lib.hid hc
  clear hR hv hc
  go_enter Try.func60, Try.ntmps60
  go_wp2_with fail
  go_loop [5] (fun t5 => ∃ k : Nat, k ≤ l.length ∧ t5 = .int .i64 k ∧ Hid (∀ i (h : i < l.length), i < k → l[i] ≠ e)) (fun t5 => l.length - (intOf t5).toNat)
  case atStart => exact ⟨0, Nat.zero_le _, rfl, Lib.hid (fun i _ h => absurd h (Nat.not_lt_zero _))⟩
  case round =>
    obtain ⟨k, hk, rfl, Hno⟩ := hrel
    have kk0 : (0 : Int) ≤ (k : Int) := by omega
    by_cases hlt : k < l.length
    · obtain ⟨b, off, rfl, hb1, hb2, hcc⟩ := Hc.out k hlt
      obtain ⟨cs, _, hcs, rfl⟩ := hcc k hlt
      have h0 := hcs.c1
      rw [Nat.mul_one] at h0
      have kkl : (k : Int) < (l.length : Int) := by omega
      have Hin : Hid (l[k] = e → l.contains e = true) := Lib.hid (fun h => by rw [List.contains_iff_mem]; exact h ▸ List.getElem_mem hlt)
      have Hnx : Hid (l[k] ≠ e → ∀ i (h : i < l.length), i < k + 1 → l[i] ≠ e) := Lib.hid (fun h i hi hik => by
        by_cases e2 : i = k
        · subst e2; exact h
        · exact Hno.out i hi (by omega))
      clear hcc hcs
      generalize l[k] = y at *
      by_cases he : y = e
      · have hr := HR.out
        rw [Hin.out he] at hr
        subst he
        go_wp2_with fail
        first | exact hr | exact fin hr rfl
      · have he2 : (y == e) = false := by simpa using he
        have Hn2 := Lib.hid (Hnx.out he)
        go_wp2_with fail
        go_round
        case rel => exact ⟨k + 1, by omega, by go_num, Hn2⟩
        case measure => simp [intOf]; omega
    · obtain rfl : k = l.length := by omega
      have llt : ¬ ((l.length : Nat) : Int) < (l.length : Int) := by omega
      have hr := HR.out
      rw [show l.contains e = false by
        rw [Bool.eq_false_iff]
        intro h
        rw [List.contains_iff_mem] at h
        obtain ⟨i, hi, e2⟩ := List.getElem_of_mem h
        exact Hno.out i hi hi e2] at hr
      clear hk
      go_wp2_with fail
      first | exact hr | exact fin hr rfl
end Go.Proofs.Yticbhfmpnmolcaa
end

/- Trees of layer 20, so deep at most; how they lie in memory; how great they are; two alike. (Printed by pult.py.) -/
section
set_option linter.unusedVariables false
set_option linter.unusedSimpArgs false
namespace Go.Proofs.Yticbhfmpnmolcaa
open Go.RowKit
set_option linter.unusedVariables false
set_option linter.unusedSimpArgs false
/-- A leaf: a value, whether there is a tree, the tree. A branch: a word, whether it is one back, leaves. -/
abbrev Lf (T : Type) := V × Bool × T
abbrev Br (T : Type) := S × Bool × List (Lf T)
/-- Trees, so deep at most. -/
def Tr : Nat → Type
  | 0 => Unit
  | d + 1 => List (Br (Tr d))
def Tr.none : (d : Nat) → Tr d
  | 0 => ()
  | _ + 1 => ([] : List _)
def Tr.len : (d : Nat) → Tr d → Nat
  | 0, _ => 0
  | d + 1, t => List.length (α := Br (Tr d)) t
def lfE {T : Type} (E : Nat → Nat → World → Value → T → Prop) : El (Lf T) := fun lo hi w cs f => ∃ tv, cs = [.int .i64 f.1.kind, .int .i64 f.1.n, .string ⟨f.1.s.toArray⟩, .bool f.2.1, tv] ∧ E lo hi w tv f.2.2
def brE {T : Type} (E : Nat → Nat → World → Value → T → Prop) : El (Br T) := fun lo hi w cs b => ∃ lv, cs = [.string ⟨b.1.toArray⟩, .bool b.2.1, lv] ∧ Sl (lfE E) 5 lo hi w lv b.2.2
/-- A tree in memory. -/
def TrIn : (d : Nat) → Nat → Nat → World → Value → Tr d → Prop
  | 0 => fun _ _ _ v _ => ∃ ao c, v = .slice ao 0 c
  | d + 1 => fun lo hi w v t => Sl (brE (TrIn d)) 3 lo hi w v t
structure LocT {T : Type} (E : Nat → Nat → World → Value → T → Prop) : Prop where
  agree : ∀ {lo hi : Nat} {w w' : World} {v : Value} {t : T}, E lo hi w v t → Agree lo hi w w' → E lo hi w' v t
  mono : ∀ {lo hi lo' hi' : Nat} {w : World} {v : Value} {t : T}, E lo hi w v t → lo' ≤ lo → hi ≤ hi' → E lo' hi' w v t
theorem lfE_loc {T : Type} {E : Nat → Nat → World → Value → T → Prop} (h : LocT E) : Loc (lfE E) := ⟨fun ⟨tv, e, k⟩ ha => ⟨tv, e, h.agree k ha⟩, fun ⟨tv, e, k⟩ h1 h2 => ⟨tv, e, h.mono k h1 h2⟩⟩
theorem brE_loc {T : Type} {E : Nat → Nat → World → Value → T → Prop} (h : LocT E) : Loc (brE E) := ⟨fun ⟨tv, e, k⟩ ha => ⟨tv, e, k.agree (lfE_loc h) ha⟩, fun ⟨tv, e, k⟩ h1 h2 => ⟨tv, e, k.mono (lfE_loc h) h1 h2⟩⟩
theorem TrIn.loc : ∀ d, LocT (TrIn d)
  | 0 => ⟨fun h _ => h, fun h _ _ => h⟩
  | d + 1 => ⟨fun h ha => Sl.agree h (brE_loc (TrIn.loc d)) ha, fun h h1 h2 => Sl.mono h (brE_loc (TrIn.loc d)) h1 h2⟩
theorem TrIn.form : ∀ {d lo hi : Nat} {w : World} {v : Value} {t : Tr d}, TrIn d lo hi w v t → ∃ ao c, v = .slice ao (Tr.len d t) c
  | 0, _, _, _, _, _, h => h
  | d + 1, _, _, _, _, _, h => by obtain ⟨ao, c, e, -⟩ := Sl.form h; exact ⟨ao, c, e⟩
theorem TrIn.none (d lo hi : Nat) (w : World) : TrIn d lo hi w (.slice none 0 0) (Tr.none d) := by
  cases d with
  | zero => exact ⟨_, _, rfl⟩
  | succ d => exact Sl.nil _ _ _ _ _
def lfsSize {T : Type} (sz : T → Nat) (l : List (Lf T)) : Nat := (l.map fun f => 1 + sz f.2.2).sum
def brsSize {T : Type} (sz : T → Nat) (l : List (Br T)) : Nat := (l.map fun b => lfsSize sz b.2.2).sum
def Tr.size : (d : Nat) → Tr d → Nat
  | 0, _ => 0
  | d + 1, t => brsSize (Tr.size d) t
theorem brs_take {T : Type} (sz : T → Nat) {l : List (Br T)} {k : Nat} (hk : k < l.length) : brsSize sz (l.take (k + 1)) = brsSize sz (l.take k) + lfsSize sz l[k].2.2 := by
  unfold brsSize
  rw [List.take_succ_eq_append_getElem hk, List.map_append, List.sum_append]; simp
theorem lfs_take {T : Type} (sz : T → Nat) {l : List (Lf T)} {k : Nat} (hk : k < l.length) : lfsSize sz (l.take (k + 1)) = lfsSize sz (l.take k) + (1 + sz l[k].2.2) := by
  unfold lfsSize
  rw [List.take_succ_eq_append_getElem hk, List.map_append, List.sum_append]; simp
theorem brs_take_le {T : Type} (sz : T → Nat) (l : List (Br T)) (k : Nat) : brsSize sz (l.take k) ≤ brsSize sz l := by
  unfold brsSize
  conv => rhs; rw [← List.take_append_drop k l, List.map_append, List.sum_append]
  omega
theorem lfs_take_le {T : Type} (sz : T → Nat) (l : List (Lf T)) (k : Nat) : lfsSize sz (l.take k) ≤ lfsSize sz l := by
  unfold lfsSize
  conv => rhs; rw [← List.take_append_drop k l, List.map_append, List.sum_append]
  omega
theorem lfs_len {T : Type} (sz : T → Nat) (l : List (Lf T)) : l.length ≤ lfsSize sz l := by
  unfold lfsSize
  induction l with
  | nil => exact Nat.zero_le _
  | cons a r ih => rw [List.map_cons, List.sum_cons, List.length_cons]; omega
theorem branch_cells {w : World} {b o : Nat} {x0 x1 x2 : Value} (h : CellsAt w b o [x0, x1, x2]) : w.cell? ⟨b, o, none⟩ = some x0 ∧ w.cell? ⟨b, o + 1, none⟩ = some x1 ∧ w.cell? ⟨b, o + 2, none⟩ = some x2 :=
  ⟨by simpa using h 0 x0 rfl, h 1 x1 rfl, h 2 x2 rfl⟩
theorem leaf_cells {w : World} {b o : Nat} {x0 x1 x2 x3 x4 : Value} (h : CellsAt w b o [x0, x1, x2, x3, x4]) : w.cell? ⟨b, o, none⟩ = some x0 ∧ w.cell? ⟨b, o + 1, none⟩ = some x1 ∧ w.cell? ⟨b, o + 2, none⟩ = some x2 ∧ w.cell? ⟨b, o + 3, none⟩ = some x3 ∧ w.cell? ⟨b, o + 4, none⟩ = some x4 :=
  ⟨by simpa using h 0 x0 rfl, h 1 x1 rfl, h 2 x2 rfl, h 3 x3 rfl, h 4 x4 rfl⟩
theorem tr_zero {lo hi : Nat} {w : World} {v : Value} {t : Tr 0} (h : TrIn 0 lo hi w v t) : ∃ ao c, v = .slice ao 0 c := h
set_option maxRecDepth 100000 in
set_option maxHeartbeats 8000000 in
theorem refSize_any : ∀ (d lo hi : Nat) (t : Tr d) (v : Value) (w : World) (hv : TrIn d lo hi w v t) (hhi : hi ≤ w.heap.size) (hs : Tr.size d t ≤ 1000000000) (R : Ending → World → Prop)
    (hR : ∀ w', Below w.heap.size w w' → R (.returned (.int .i64 (Tr.size d t : Nat))) w'), Calls Try.prog 10 #[v] w R := by
  intro d
  induction d with
  | zero =>
    intro lo hi t v w hv hhi hs R hR
    have hr := hR w (Below.refl _ _)
    obtain ⟨ao, c, rfl⟩ := tr_zero hv
    rw [show Tr.size 0 t = 0 from rfl] at hr
    clear hR hv
    go_enter Try.func10, Try.ntmps10
    go_wp2_with fail
    go_loopw [3, 4] (fun t3 t4 wr => t3 = .int .i64 0 ∧ t4 = .int .i64 0 ∧ wr = w) (fun _ _ _ => 0)
    case atStart => exact ⟨rfl, rfl, rfl⟩
    case round =>
      obtain ⟨rfl, rfl, rfl⟩ := hrel
      have l00 : ¬ (0 : Int) < 0 := by decide
      go_wp2_with fail
      first | exact hr | exact fin hr rfl
  | succ d ih =>
    intro lo hi t v w hv hhi hs R hR
    replace hv : Sl (brE (TrIn d)) 3 lo hi w v t := hv
    replace hs : brsSize (Tr.size d) t ≤ 1000000000 := hs
    replace hR : ∀ w', Below w.heap.size w w' → R (.returned (.int .i64 (brsSize (Tr.size d) t : Nat))) w' := hR
    revert t
    show ∀ (t : List (Br (Tr d))), _
    intro t hv hs hR
    have HR := Lib.hid hR
    have hl63 := hv.len
    have Hv := Lib.hid hv
    obtain ⟨ao, cv, rfl, -, -, -, -⟩ := hv.form
    clear hR hv
    go_enter Try.func10, Try.ntmps10
    go_wp2_with fail
    go_loopw [3, 4] (fun t3 t4 wr => ∃ (k n : Nat), k ≤ t.length ∧ Hid (n = brsSize (Tr.size d) (t.take k)) ∧ t4 = .int .i64 k ∧ t3 = .int .i64 n ∧ Below w.heap.size w wr) (fun _ t4 _ => t.length - (intOf t4).toNat)
    case atStart => exact ⟨0, 0, Nat.zero_le _, Lib.hid (by simp [brsSize]), rfl, rfl, Below.refl _ _⟩
    case round =>
      obtain ⟨k, n, hk, Hn, rfl, rfl, hB⟩ := hrel
      obtain ⟨wo, ewo⟩ : ∃ x, x = wr := ⟨_, rfl⟩
      subst ewo
      have HB := Lib.hid hB
      have hz := hB.size
      have kk0 : (0 : Int) ≤ (k : Int) := by omega
      clear hB
      by_cases hlt : k < t.length
      · have kkl : (k : Int) < (t.length : Int) := by omega
        have Hx := Lib.hid (Sl.below Hv.out (brE_loc (TrIn.loc d)) HB.out hhi)
        obtain ⟨ao', cap', e', -, -, -, hc⟩ := Hx.out.form
        injection e' with e1 e2 e3
        subst e1 e3
        obtain ⟨b, off, rfl, hb1, hb2, hcc⟩ := hc k hlt
        obtain ⟨cs, -, hcs, hel⟩ := hcc k hlt
        have hstep := brs_take (Tr.size d) hlt
        have hmax := brs_take_le (Tr.size d) t (k + 1)
        rw [← Hn.out] at hstep
        generalize t[k] = x at *
        obtain ⟨lv, rfl, hlv⟩ := hel
        obtain ⟨q1, hq1⟩ : ∃ q, q = brsSize (Tr.size d) (t.take (k + 1)) := ⟨_, rfl⟩
        rw [← hq1] at hstep hmax
        have Hq1 := Lib.hid hq1
        have Hlv := Lib.hid hlv
        have hll63 := hlv.len
        have Hcs := Lib.hid hcs
        have Hbl : Hid (b < wo.heap.size) := Lib.hid (by omega)
        have Hhi : Hid (hi ≤ wo.heap.size) := Lib.hid (by omega)
        obtain ⟨al, cl, rfl, -, -, -, -⟩ := hlv.form
        clear hc hcc hcs hlv hq1 e2 hb1 hb2 Hx
        go_wp2_with fail
        go_loopw [3, 5] (fun t3 t5 wr => ∃ (j m : Nat), j ≤ x.2.2.length ∧ Hid (m = n + lfsSize (Tr.size d) (x.2.2.take j)) ∧ t5 = .int .i64 j ∧ t3 = .int .i64 m ∧ Below wo.heap.size wo wr) (fun _ t5 _ => x.2.2.length - (intOf t5).toNat)
        case atStart => exact ⟨0, n, Nat.zero_le _, Lib.hid (by simp [lfsSize]), rfl, rfl, Below.refl _ _⟩
        case round =>
          obtain ⟨j, m, hj, Hm, rfl, rfl, hB2⟩ := hrel
          obtain ⟨wk, ewk⟩ : ∃ x, x = wr := ⟨_, rfl⟩
          subst ewk
          have HB2 := Lib.hid hB2
          have hz2 := hB2.size
          have jj0 : (0 : Int) ≤ (j : Int) := by omega
          have Hcs2 := Lib.hid (Hcs.out.agree (.below hB2 (Nat.le_refl _)) (Nat.zero_le _) Hbl.out)
          obtain ⟨y0, y1, y2⟩ := branch_cells Hcs2.out
          clear hB2 y0 y1
          by_cases hjl : j < x.2.2.length
          · have jjl : (j : Int) < (x.2.2.length : Int) := by omega
            have Hl2 := Lib.hid (Sl.below Hlv.out (lfE_loc (TrIn.loc d)) HB2.out Hhi.out)
            obtain ⟨ao', cap', e', -, -, -, hc⟩ := Hl2.out.form
            injection e' with e1 e2 e3
            subst e1 e3
            obtain ⟨b2, off2, rfl, hb1, hb2, hcc⟩ := hc j hjl
            obtain ⟨cs, -, hcs, hel⟩ := hcc j hjl
            have hst := lfs_take (Tr.size d) hjl
            have hmx := lfs_take_le (Tr.size d) x.2.2 (j + 1)
            generalize x.2.2[j] = f at *
            obtain ⟨tv, rfl, htv⟩ := hel
            obtain ⟨z0, z1, z2, z3, z4⟩ := leaf_cells hcs
            obtain ⟨at', ct, rfl⟩ := htv.form
            have hmb : m + (1 + Tr.size d f.2.2) = n + lfsSize (Tr.size d) (x.2.2.take (j + 1)) := by rw [Hm.out, hst]; omega
            have Hmb := Lib.hid hmb
            have hm9 : m + (1 + Tr.size d f.2.2) ≤ 1000000000 := by omega
            have Htv := Lib.hid htv
            clear hc hcc hcs e2 hb1 hb2 Hl2 htv z0 z1 z2 z3 hmb hst hmx
            go_wp2_with fail
            refine ih lo hi f.2.2 _ wk Htv.out (by omega) (by omega) _ (fun w2 hB3 => ?_)
            have HB3 := Lib.hid (HB2.out.trans (hB3.mono HB2.out.size))
            obtain ⟨s, hs2⟩ : ∃ s, s = Tr.size d f.2.2 := ⟨_, rfl⟩
            rw [← hs2] at Hmb hm9 ⊢
            clear hs2 hB3 y2 z4
            go_wp2_with fail
            go_roundw
            case rel => exact ⟨j + 1, m + (1 + s), by omega, Lib.hid Hmb.out, by go_num, by go_num, HB3.out⟩
            case measure => simp [intOf]; omega
          · obtain rfl : j = x.2.2.length := by omega
            have ljj : ¬ ((x.2.2.length : Nat) : Int) < (x.2.2.length : Int) := by omega
            have Hm2 : Hid (m = q1) := Lib.hid (by rw [Hm.out, List.take_length]; omega)
            clear hj hjl
            go_wp2_with fail
            go_roundw
            case rel => exact ⟨k + 1, m, by omega, Lib.hid (by rw [← Hq1.out]; exact Hm2.out), by go_num, rfl, HB.out.trans (HB2.out.mono HB.out.size)⟩
            case measure => simp [intOf]; omega
      · obtain rfl : k = t.length := by omega
        have llt : ¬ ((t.length : Nat) : Int) < (t.length : Int) := by omega
        have hr := HR.out wo HB.out
        have e1 : n = brsSize (Tr.size d) t := by rw [Hn.out, List.take_length]
        rw [← e1] at hr
        clear hk e1
        go_wp2_with fail
        first | exact hr | exact fin hr rfl
set_option maxRecDepth 100000 in
set_option maxHeartbeats 8000000 in
theorem pSize_any : ∀ (d lo hi : Nat) (t : Tr d) (v : Value) (w : World) (hv : TrIn d lo hi w v t) (hhi : hi ≤ w.heap.size) (hs : Tr.size d t ≤ 1000000000) (R : Ending → World → Prop)
    (hR : ∀ w', Below w.heap.size w w' → R (.returned (.int .i64 (Tr.size d t : Nat))) w'), Calls Try.prog 9 #[v] w R := by
  intro d
  induction d with
  | zero =>
    intro lo hi t v w hv hhi hs R hR
    have hr := hR w (Below.refl _ _)
    obtain ⟨ao, c, rfl⟩ := tr_zero hv
    rw [show Tr.size 0 t = 0 from rfl] at hr
    clear hR hv
    go_enter Try.func9, Try.ntmps9
    go_wp2_with fail
    go_loopw [3, 10] (fun t3 t10 wr => t3 = .int .i64 0 ∧ t10 = .int .i64 0 ∧ wr = w) (fun _ _ _ => 0)
    case atStart => exact ⟨rfl, rfl, rfl⟩
    case round =>
      obtain ⟨rfl, rfl, rfl⟩ := hrel
      have l00 : ¬ (0 : Int) < 0 := by decide
      go_wp2_with fail
      first | exact hr | exact fin hr rfl
  | succ d ih =>
    intro lo hi t v w hv hhi hs R hR
    replace hv : Sl (brE (TrIn d)) 3 lo hi w v t := hv
    replace hs : brsSize (Tr.size d) t ≤ 1000000000 := hs
    replace hR : ∀ w', Below w.heap.size w w' → R (.returned (.int .i64 (brsSize (Tr.size d) t : Nat))) w' := hR
    revert t
    show ∀ (t : List (Br (Tr d))), _
    intro t hv hs hR
    have HR := Lib.hid hR
    have hl63 := hv.len
    have Hv := Lib.hid hv
    obtain ⟨ao, cv, rfl, -, -, -, -⟩ := hv.form
    clear hR hv
    go_enter Try.func9, Try.ntmps9
    go_wp2_with fail
    go_loopw [3, 10] (fun t3 t4 wr => ∃ (k n : Nat), k ≤ t.length ∧ Hid (n = brsSize (Tr.size d) (t.take k)) ∧ t4 = .int .i64 k ∧ t3 = .int .i64 n ∧ Below w.heap.size w wr) (fun _ t4 _ => t.length - (intOf t4).toNat)
    case atStart => exact ⟨0, 0, Nat.zero_le _, Lib.hid (by simp [brsSize]), rfl, rfl, Below.refl _ _⟩
    case round =>
      obtain ⟨k, n, hk, Hn, rfl, rfl, hB⟩ := hrel
      obtain ⟨wo, ewo⟩ : ∃ x, x = wr := ⟨_, rfl⟩
      subst ewo
      have HB := Lib.hid hB
      have hz := hB.size
      have kk0 : (0 : Int) ≤ (k : Int) := by omega
      clear hB
      by_cases hlt : k < t.length
      · have kkl : (k : Int) < (t.length : Int) := by omega
        have Hx := Lib.hid (Sl.below Hv.out (brE_loc (TrIn.loc d)) HB.out hhi)
        obtain ⟨ao', cap', e', -, -, -, hc⟩ := Hx.out.form
        injection e' with e1 e2 e3
        subst e1 e3
        obtain ⟨b, off, rfl, hb1, hb2, hcc⟩ := hc k hlt
        obtain ⟨cs, -, hcs, hel⟩ := hcc k hlt
        have hstep := brs_take (Tr.size d) hlt
        have hmax := brs_take_le (Tr.size d) t (k + 1)
        rw [← Hn.out] at hstep
        generalize t[k] = x at *
        obtain ⟨lv, rfl, hlv⟩ := hel
        obtain ⟨q1, hq1⟩ : ∃ q, q = brsSize (Tr.size d) (t.take (k + 1)) := ⟨_, rfl⟩
        rw [← hq1] at hstep hmax
        have Hq1 := Lib.hid hq1
        have Hlv := Lib.hid hlv
        have hll63 := hlv.len
        have Hcs := Lib.hid hcs
        have Hbl : Hid (b < wo.heap.size) := Lib.hid (by omega)
        have Hhi : Hid (hi ≤ wo.heap.size) := Lib.hid (by omega)
        obtain ⟨al, cl, rfl, -, -, -, -⟩ := hlv.form
        clear hc hcc hcs hlv hq1 e2 hb1 hb2 Hx
        obtain ⟨y0, y1, y2⟩ := branch_cells Hcs.out
        have hxl : n + x.2.2.length ≤ 1000000000 := by have := lfs_len (Tr.size d) x.2.2; omega
        go_upto_region 5 with fail
        have hBa := alloc_below wo (.cells #[.string ⟨x.1.toArray⟩, .bool x.2.1, .slice al x.2.2.length cl] 62)
        have hba := Blk.new wo [.string ⟨x.1.toArray⟩, .bool x.2.1, .slice al x.2.2.length cl] 62 rfl
        generalize wo.alloc (.cells #[.string ⟨x.1.toArray⟩, .bool x.2.1, .slice al x.2.2.length cl] 62) = wb at *
        have Hlv2 := Lib.hid (Sl.below Hlv.out (lfE_loc (TrIn.loc d)) hBa (by omega))
        have HBb := Lib.hid (HB.out.trans (hBa.mono HB.out.size))
        have hzb := hBa.size
        obtain ⟨bb, ebb⟩ : ∃ b, b = wo.heap.size := ⟨_, rfl⟩
        rw [← ebb] at hba ⊢
        obtain ⟨c0, c1, c2⟩ := branch_cells hba.cells
        simp only [Nat.zero_add] at c1 c2
        clear y0 y1 y2 hBa hba ebb
        go_wp2_with fail
        go_loopw [3, 22] (fun t3 t22 wr => ∃ (j m : Nat), j ≤ x.2.2.length ∧ Hid (m + (x.2.2.length - j) = n + x.2.2.length + lfsSize (Tr.size d) (x.2.2.take j) - j + (x.2.2.length - j)) ∧ Hid (m + j = n + x.2.2.length + lfsSize (Tr.size d) (x.2.2.take j)) ∧ t22 = .int .i64 j ∧ t3 = .int .i64 m ∧ Below wb.heap.size wb wr) (fun _ t22 _ => x.2.2.length - (intOf t22).toNat)
        case atStart => exact ⟨0, n + x.2.2.length, Nat.zero_le _, Lib.hid (by simp [lfsSize]), Lib.hid (by simp [lfsSize]), rfl, by go_num, Below.refl _ _⟩
        case round =>
          obtain ⟨j, m, hj, -, Hm, rfl, rfl, hB2⟩ := hrel
          obtain ⟨wk, ewk⟩ : ∃ x, x = wr := ⟨_, rfl⟩
          subst ewk
          have HB2 := Lib.hid hB2
          have hz2 := hB2.size
          have jj0 : (0 : Int) ≤ (j : Int) := by omega
          clear hB2
          by_cases hjl : j < x.2.2.length
          · have jjl : (j : Int) < (x.2.2.length : Int) := by omega
            have Hl2 := Lib.hid (Sl.below Hlv2.out (lfE_loc (TrIn.loc d)) HB2.out (by omega))
            obtain ⟨ao', cap', e', -, -, -, hc⟩ := Hl2.out.form
            injection e' with e1 e2 e3
            subst e1 e3
            obtain ⟨b2, off2, rfl, hb1, hb2, hcc⟩ := hc j hjl
            obtain ⟨cs, -, hcs, hel⟩ := hcc j hjl
            have hst := lfs_take (Tr.size d) hjl
            have hmx := lfs_take_le (Tr.size d) x.2.2 (j + 1)
            generalize x.2.2[j] = f at *
            obtain ⟨tv, rfl, htv⟩ := hel
            obtain ⟨z0, z1, z2, z3, z4⟩ := leaf_cells hcs
            obtain ⟨at', ct, rfl⟩ := htv.form
            have hmb : m + Tr.size d f.2.2 + (j + 1) = n + x.2.2.length + lfsSize (Tr.size d) (x.2.2.take (j + 1)) := by rw [hst]; have := Hm.out; omega
            have Hmb := Lib.hid hmb
            have hm9 : m + Tr.size d f.2.2 ≤ 1000000000 := by
              have h1 := lfs_len (Tr.size d) (x.2.2.drop (j + 1))
              have h2 : lfsSize (Tr.size d) x.2.2 = lfsSize (Tr.size d) (x.2.2.take (j + 1)) + lfsSize (Tr.size d) (x.2.2.drop (j + 1)) := by
                unfold lfsSize
                conv => lhs; rw [← List.take_append_drop (j + 1) x.2.2, List.map_append, List.sum_append]
              rw [List.length_drop] at h1
              omega
            have Htv := Lib.hid htv
            clear hc hcc hcs e2 hb1 hb2 Hl2 htv hmb hst hmx
            go_upto_region 9 with fail
            have hBl := alloc_below wk (.cells #[.int .i64 f.1.kind, .int .i64 f.1.n, .string ⟨f.1.s.toArray⟩, .bool f.2.1, .slice at' (Tr.len d f.2.2) ct] 64)
            have hbl := Blk.new wk [.int .i64 f.1.kind, .int .i64 f.1.n, .string ⟨f.1.s.toArray⟩, .bool f.2.1, .slice at' (Tr.len d f.2.2) ct] 64 rfl
            generalize wk.alloc (.cells #[.int .i64 f.1.kind, .int .i64 f.1.n, .string ⟨f.1.s.toArray⟩, .bool f.2.1, .slice at' (Tr.len d f.2.2) ct] 64) = wl at *
            have Htv2 := Lib.hid ((TrIn.loc d).agree Htv.out (.below hBl (by omega)))
            have HB3 := Lib.hid (HB2.out.trans (hBl.mono HB2.out.size))
            have hzl := hBl.size
            obtain ⟨x0, x1, x2, x3, x4⟩ := leaf_cells hbl.cells
            simp only [Nat.zero_add] at x1 x2 x3 x4
            clear z0 z1 z2 z3 z4 hBl hbl
            go_wp2_with fail
            refine ih lo hi f.2.2 _ wl Htv2.out (by omega) (by omega) _ (fun w2 hB4 => ?_)
            have HB4 := Lib.hid (HB3.out.trans (hB4.mono HB3.out.size))
            obtain ⟨s, hs2⟩ : ∃ s, s = Tr.size d f.2.2 := ⟨_, rfl⟩
            rw [← hs2] at Hmb hm9 ⊢
            clear hs2 hB4 x0 x1 x2 x3 x4
            go_wp2_with fail
            go_roundw
            case rel => exact ⟨j + 1, m + s, by omega, Lib.hid (by have := Hmb.out; omega), Lib.hid Hmb.out, by go_num, by go_num, HB4.out⟩
            case measure => simp [intOf]; omega
          · obtain rfl : j = x.2.2.length := by omega
            have ljj : ¬ ((x.2.2.length : Nat) : Int) < (x.2.2.length : Int) := by omega
            have Hm2 : Hid (m = q1) := Lib.hid (by have h := Hm.out; rw [List.take_length] at h; omega)
            clear hj hjl
            go_wp2_with fail
            go_roundw
            case rel => exact ⟨k + 1, m, by omega, Lib.hid (by rw [← Hq1.out]; exact Hm2.out), by go_num, rfl, HBb.out.trans (HB2.out.mono HBb.out.size)⟩
            case measure => simp [intOf]; omega
      · obtain rfl : k = t.length := by omega
        have llt : ¬ ((t.length : Nat) : Int) < (t.length : Int) := by omega
        have hr := HR.out wo HB.out
        have e1 : n = brsSize (Tr.size d) t := by rw [Hn.out, List.take_length]
        rw [← e1] at hr
        clear hk e1
        go_wp2_with fail
        first | exact hr | exact fin hr rfl
theorem brE_at {T : Type} {E : Nat → Nat → World → Value → T → Prop} {lo hi : Nat} {w : World} {p : Option Addr} {n c : Nat} {l : List (Br T)} (h : Sl (brE E) 3 lo hi w (.slice p n c) l) {k : Nat} (hk : k < l.length) :
    ∃ b off al cl, p = some ⟨b, off, none⟩ ∧ b < hi ∧ CellsAt w b (off + k * 3) [.string ⟨l[k].1.toArray⟩, .bool l[k].2.1, .slice al l[k].2.2.length cl] ∧ Sl (lfE E) 5 lo hi w (.slice al l[k].2.2.length cl) l[k].2.2 := by
  obtain ⟨ao', cap', e', -, -, -, hc⟩ := h.form
  injection e' with e1 e2 e3
  subst e1 e3
  obtain ⟨b, off, rfl, hb1, hb2, hcc⟩ := hc k hk
  obtain ⟨cs, -, hcs, lv, rfl, hlv⟩ := hcc k hk
  obtain ⟨al, cl, rfl, -, -, -, -⟩ := hlv.form
  exact ⟨b, off, al, cl, rfl, hb2, hcs, hlv⟩
theorem lfE_at {d lo hi : Nat} {w : World} {p : Option Addr} {n c : Nat} {l : List (Lf (Tr d))} (h : Sl (lfE (TrIn d)) 5 lo hi w (.slice p n c) l) {k : Nat} (hk : k < l.length) :
    ∃ b off at' ct, p = some ⟨b, off, none⟩ ∧ b < hi ∧ CellsAt w b (off + k * 5) [.int .i64 l[k].1.kind, .int .i64 l[k].1.n, .string ⟨l[k].1.s.toArray⟩, .bool l[k].2.1, .slice at' (Tr.len d l[k].2.2) ct] ∧ TrIn d lo hi w (.slice at' (Tr.len d l[k].2.2) ct) l[k].2.2 := by
  obtain ⟨ao', cap', e', -, -, -, hc⟩ := h.form
  injection e' with e1 e2 e3
  subst e1 e3
  obtain ⟨b, off, rfl, hb1, hb2, hcc⟩ := hc k hk
  obtain ⟨cs, -, hcs, lv, rfl, hlv⟩ := hcc k hk
  obtain ⟨al, cl, rfl⟩ := hlv.form
  exact ⟨b, off, al, cl, rfl, hb2, hcs, hlv⟩
theorem run_neq_same {x : V} (w : World) : (binOp .neq 39 x.agg x.agg).run Try.prog w = .ok (.bool false) w := by go_simp
theorem leaf_val {w : World} {b o : Nat} {x0 x1 x2 x3 x4 : Value} (h : CellsAt w b o [x0, x1, x2, x3, x4]) : (loadVar 39 ⟨b, o, none⟩).run Try.prog w = .ok (.agg #[x0, x1, x2]) w := by
  have h2 : CellsAt w b o [x0, x1, x2] := fun j u hu => by
    match j, hu with
    | 0, hu => obtain rfl : x0 = u := by simpa using hu
               simpa using h 0 x0 rfl
    | 1, hu => obtain rfl : x1 = u := by simpa using hu
               simpa using h 1 x1 rfl
    | 2, hu => obtain rfl : x2 = u := by simpa using hu
               simpa using h 2 x2 rfl
    | j + 3, hu => simp at hu
  exact h2.runVar (P := Try.prog) (t := 39) (fun _ => by kernel_rfl) (fun _ => by kernel_rfl)
set_option maxRecDepth 100000 in
set_option maxHeartbeats 16000000 in
theorem refSame_any : ∀ (d lo hi lo2 hi2 : Nat) (t : Tr d) (v u : Value) (w : World) (hv : TrIn d lo hi w v t) (hu : TrIn d lo2 hi2 w u t) (hhi : hi ≤ w.heap.size) (hhi2 : hi2 ≤ w.heap.size) (R : Ending → World → Prop)
    (hR : ∀ w', Below w.heap.size w w' → R (.returned (.bool true)) w'), Calls Try.prog 8 #[v, u] w R := by
  intro d
  induction d with
  | zero =>
    intro lo hi lo2 hi2 t v u w hv hu hhi hhi2 R hR
    have hr := hR w (Below.refl _ _)
    obtain ⟨ao, c, rfl⟩ := tr_zero hv
    obtain ⟨ao2, c2, rfl⟩ := tr_zero hu
    clear hR hv hu
    go_enter Try.func8, Try.ntmps8
    go_wp2_with fail
    go_loopw [5] (fun t5 wr => t5 = .int .i64 0 ∧ wr = w) (fun _ _ => 0)
    case atStart => exact ⟨rfl, rfl⟩
    case round =>
      obtain ⟨rfl, rfl⟩ := hrel
      have l00 : ¬ (0 : Int) < 0 := by decide
      go_wp2_with fail
      first | exact hr | exact fin hr rfl
  | succ d ih =>
    intro lo hi lo2 hi2 t v u w hv hu hhi hhi2 R hR
    replace hv : Sl (brE (TrIn d)) 3 lo hi w v t := hv
    replace hu : Sl (brE (TrIn d)) 3 lo2 hi2 w u t := hu
    revert t
    show ∀ (t : List (Br (Tr d))), _
    intro t hv hu
    have HR := Lib.hid hR
    have hl63 := hv.len
    have Hv := Lib.hid hv
    have Hu := Lib.hid hu
    obtain ⟨ao, cv, rfl, -, -, -, -⟩ := hv.form
    obtain ⟨ao2, cv2, rfl, -, -, -, -⟩ := hu.form
    clear hR hv hu
    go_enter Try.func8, Try.ntmps8
    go_wp2_with fail
    go_loopw [5] (fun t5 wr => ∃ k : Nat, k ≤ t.length ∧ t5 = .int .i64 k ∧ Below w.heap.size w wr) (fun t5 _ => t.length - (intOf t5).toNat)
    case atStart => exact ⟨0, Nat.zero_le _, rfl, Below.refl _ _⟩
    case round =>
      obtain ⟨k, hk, rfl, hB⟩ := hrel
      obtain ⟨wo, ewo⟩ : ∃ x, x = wr := ⟨_, rfl⟩
      subst ewo
      have HB := Lib.hid hB
      have hz := hB.size
      have kk0 : (0 : Int) ≤ (k : Int) := by omega
      clear hB
      by_cases hlt : k < t.length
      · have kkl : (k : Int) < (t.length : Int) := by omega
        obtain ⟨b, off, al, cl, rfl, hb, hca, hla⟩ := brE_at (Sl.below Hv.out (brE_loc (TrIn.loc d)) HB.out hhi) hlt
        obtain ⟨b2, off2, al2, cl2, rfl, hb2, hcb, hlb⟩ := brE_at (Sl.below Hu.out (brE_loc (TrIn.loc d)) HB.out hhi2) hlt
        generalize t[k] = x at *
        have hxl63 := hla.len
        have Hca := Lib.hid hca
        have Hcb := Lib.hid hcb
        have Hla := Lib.hid hla
        have Hlb := Lib.hid hlb
        have Hba : Hid (b < wo.heap.size) := Lib.hid (by omega)
        have Hbb : Hid (b2 < wo.heap.size) := Lib.hid (by omega)
        clear hca hcb hla hlb
        go_upto_region 6 with fail
        refine wp_region_held_drew (S := fun w' => Below wo.heap.size wo w') (by kernel_rfl) (Below.refl _ _).drew (fun hHeld => ?_)
        refine wpAnyH_take (i := 0) (v := .slice (some ⟨b, off, none⟩) t.length cv) rfl (by kernel_rfl) (by kernel_rfl) (by kernel_rfl) (fun _ _ _ h => h) (Or.inl ⟨by rfl, ?_⟩) hHeld ?_
        · intro w' hSw; go_simp
        try simp only [ν1, ν2, ν3, ν4, ν5, ν6, ν7, ν8]
        refine wpAnyH_take (i := 1) (v := .int .i64 ((k : Int))) rfl (by kernel_rfl) (by kernel_rfl) (by kernel_rfl) (fun _ _ _ h => h) (Or.inl ⟨by rfl, ?_⟩) hHeld ?_
        · intro w' hSw; go_simp
        try simp only [ν1, ν2, ν3, ν4, ν5, ν6, ν7, ν8]
        refine wpAnyH_take (i := 2) (v := .pointer (some ⟨b, off + k * 3, none⟩)) rfl (by kernel_rfl) (by kernel_rfl) (by kernel_rfl) (fun _ _ _ h => h) (Or.inl ⟨by rfl, ?_⟩) hHeld ?_
        · intro w' hSw; go_simp
        try simp only [ν1, ν2, ν3, ν4, ν5, ν6, ν7, ν8]
        refine wpAnyH_take (i := 3) (v := .pointer (some ⟨b, off + k * 3, none⟩)) rfl (by kernel_rfl) (by kernel_rfl) (by kernel_rfl) (fun _ _ _ h => h) (Or.inl ⟨by rfl, ?_⟩) hHeld ?_
        · intro w' hSw; go_simp
        try simp only [ν1, ν2, ν3, ν4, ν5, ν6, ν7, ν8]
        refine wpAnyH_take (i := 4) (v := .string ⟨x.1.toArray⟩) rfl (by kernel_rfl) (by kernel_rfl) (by kernel_rfl) (fun _ _ _ h => h) (Or.inl ⟨by rfl, ?_⟩) hHeld ?_
        · intro w' hSw; have kc := (Hca.out.agree (.below hSw (Nat.le_refl _)) (Nat.zero_le _) Hba.out); obtain ⟨z0, z1, z2⟩ := branch_cells kc; go_simp
        try simp only [ν1, ν2, ν3, ν4, ν5, ν6, ν7, ν8]
        refine wpAnyH_take (i := 5) (v := .slice (some ⟨b2, off2, none⟩) t.length cv2) rfl (by kernel_rfl) (by kernel_rfl) (by kernel_rfl) (fun _ _ _ h => h) (Or.inl ⟨by rfl, ?_⟩) hHeld ?_
        · intro w' hSw; go_simp
        try simp only [ν1, ν2, ν3, ν4, ν5, ν6, ν7, ν8]
        refine wpAnyH_take (i := 6) (v := .int .i64 ((k : Int))) rfl (by kernel_rfl) (by kernel_rfl) (by kernel_rfl) (fun _ _ _ h => h) (Or.inl ⟨by rfl, ?_⟩) hHeld ?_
        · intro w' hSw; go_simp
        try simp only [ν1, ν2, ν3, ν4, ν5, ν6, ν7, ν8]
        refine wpAnyH_take (i := 7) (v := .pointer (some ⟨b2, off2 + k * 3, none⟩)) rfl (by kernel_rfl) (by kernel_rfl) (by kernel_rfl) (fun _ _ _ h => h) (Or.inl ⟨by rfl, ?_⟩) hHeld ?_
        · intro w' hSw; go_simp
        try simp only [ν1, ν2, ν3, ν4, ν5, ν6, ν7, ν8]
        refine wpAnyH_take (i := 8) (v := .pointer (some ⟨b2, off2 + k * 3, none⟩)) rfl (by kernel_rfl) (by kernel_rfl) (by kernel_rfl) (fun _ _ _ h => h) (Or.inl ⟨by rfl, ?_⟩) hHeld ?_
        · intro w' hSw; go_simp
        try simp only [ν1, ν2, ν3, ν4, ν5, ν6, ν7, ν8]
        refine wpAnyH_take (i := 9) (v := .string ⟨x.1.toArray⟩) rfl (by kernel_rfl) (by kernel_rfl) (by kernel_rfl) (fun _ _ _ h => h) (Or.inl ⟨by rfl, ?_⟩) hHeld ?_
        · intro w' hSw; have kc := (Hcb.out.agree (.below hSw (Nat.le_refl _)) (Nat.zero_le _) Hbb.out); obtain ⟨z0, z1, z2⟩ := branch_cells kc; go_simp
        try simp only [ν1, ν2, ν3, ν4, ν5, ν6, ν7, ν8]
        refine wpAnyH_take (i := 10) (v := .bool false) rfl (by kernel_rfl) (by kernel_rfl) (by kernel_rfl) (fun _ _ _ h => h) (Or.inl ⟨by rfl, ?_⟩) hHeld ?_
        · intro w' hSw; go_simp
        try simp only [ν1, ν2, ν3, ν4, ν5, ν6, ν7, ν8]
        refine wpAnyH_take (i := 11) (v := .bool false) rfl (by kernel_rfl) (by kernel_rfl) (by kernel_rfl) (fun _ _ _ h => h) (Or.inl ⟨by rfl, ?_⟩) hHeld ?_
        · intro w' hSw; go_simp
        try simp only [ν1, ν2, ν3, ν4, ν5, ν6, ν7, ν8]
        refine wpAnyH_take (i := 12) (v := .slice (some ⟨b, off, none⟩) t.length cv) rfl (by kernel_rfl) (by kernel_rfl) (by kernel_rfl) (fun _ _ _ h => h) (Or.inl ⟨by rfl, ?_⟩) hHeld ?_
        · intro w' hSw; go_simp
        try simp only [ν1, ν2, ν3, ν4, ν5, ν6, ν7, ν8]
        refine wpAnyH_take (i := 13) (v := .int .i64 ((k : Int))) rfl (by kernel_rfl) (by kernel_rfl) (by kernel_rfl) (fun _ _ _ h => h) (Or.inl ⟨by rfl, ?_⟩) hHeld ?_
        · intro w' hSw; go_simp
        try simp only [ν1, ν2, ν3, ν4, ν5, ν6, ν7, ν8]
        refine wpAnyH_take (i := 14) (v := .pointer (some ⟨b, off + k * 3, none⟩)) rfl (by kernel_rfl) (by kernel_rfl) (by kernel_rfl) (fun _ _ _ h => h) (Or.inl ⟨by rfl, ?_⟩) hHeld ?_
        · intro w' hSw; go_simp
        try simp only [ν1, ν2, ν3, ν4, ν5, ν6, ν7, ν8]
        refine wpAnyH_take (i := 15) (v := .pointer (some ⟨b, off + k * 3 + 1, none⟩)) rfl (by kernel_rfl) (by kernel_rfl) (by kernel_rfl) (fun _ _ _ h => h) (Or.inl ⟨by rfl, ?_⟩) hHeld ?_
        · intro w' hSw; go_simp
        try simp only [ν1, ν2, ν3, ν4, ν5, ν6, ν7, ν8]
        refine wpAnyH_take (i := 16) (v := .bool x.2.1) rfl (by kernel_rfl) (by kernel_rfl) (by kernel_rfl) (fun _ _ _ h => h) (Or.inl ⟨by rfl, ?_⟩) hHeld ?_
        · intro w' hSw; have kc := (Hca.out.agree (.below hSw (Nat.le_refl _)) (Nat.zero_le _) Hba.out); obtain ⟨z0, z1, z2⟩ := branch_cells kc; go_simp
        try simp only [ν1, ν2, ν3, ν4, ν5, ν6, ν7, ν8]
        refine wpAnyH_take (i := 17) (v := .slice (some ⟨b2, off2, none⟩) t.length cv2) rfl (by kernel_rfl) (by kernel_rfl) (by kernel_rfl) (fun _ _ _ h => h) (Or.inl ⟨by rfl, ?_⟩) hHeld ?_
        · intro w' hSw; go_simp
        try simp only [ν1, ν2, ν3, ν4, ν5, ν6, ν7, ν8]
        refine wpAnyH_take (i := 18) (v := .int .i64 ((k : Int))) rfl (by kernel_rfl) (by kernel_rfl) (by kernel_rfl) (fun _ _ _ h => h) (Or.inl ⟨by rfl, ?_⟩) hHeld ?_
        · intro w' hSw; go_simp
        try simp only [ν1, ν2, ν3, ν4, ν5, ν6, ν7, ν8]
        refine wpAnyH_take (i := 19) (v := .pointer (some ⟨b2, off2 + k * 3, none⟩)) rfl (by kernel_rfl) (by kernel_rfl) (by kernel_rfl) (fun _ _ _ h => h) (Or.inl ⟨by rfl, ?_⟩) hHeld ?_
        · intro w' hSw; go_simp
        try simp only [ν1, ν2, ν3, ν4, ν5, ν6, ν7, ν8]
        refine wpAnyH_take (i := 20) (v := .pointer (some ⟨b2, off2 + k * 3 + 1, none⟩)) rfl (by kernel_rfl) (by kernel_rfl) (by kernel_rfl) (fun _ _ _ h => h) (Or.inl ⟨by rfl, ?_⟩) hHeld ?_
        · intro w' hSw; go_simp
        try simp only [ν1, ν2, ν3, ν4, ν5, ν6, ν7, ν8]
        refine wpAnyH_take (i := 21) (v := .bool x.2.1) rfl (by kernel_rfl) (by kernel_rfl) (by kernel_rfl) (fun _ _ _ h => h) (Or.inl ⟨by rfl, ?_⟩) hHeld ?_
        · intro w' hSw; have kc := (Hcb.out.agree (.below hSw (Nat.le_refl _)) (Nat.zero_le _) Hbb.out); obtain ⟨z0, z1, z2⟩ := branch_cells kc; go_simp
        try simp only [ν1, ν2, ν3, ν4, ν5, ν6, ν7, ν8]
        refine wpAnyH_take (i := 22) (v := .bool false) rfl (by kernel_rfl) (by kernel_rfl) (by kernel_rfl) (fun _ _ _ h => h) (Or.inl ⟨by rfl, ?_⟩) hHeld ?_
        · intro w' hSw; go_simp
        try simp only [ν1, ν2, ν3, ν4, ν5, ν6, ν7, ν8]
        refine wpAnyH_take (i := 23) (v := .bool false) rfl (by kernel_rfl) (by kernel_rfl) (by kernel_rfl) (fun _ _ _ h => h) (Or.inl ⟨by rfl, ?_⟩) hHeld ?_
        · intro w' hSw; go_simp
        try simp only [ν1, ν2, ν3, ν4, ν5, ν6, ν7, ν8]
        refine wpAnyH_take (i := 24) (v := .bool false) rfl (by kernel_rfl) (by kernel_rfl) (by kernel_rfl) (fun _ _ _ h => h) (Or.inl ⟨by rfl, ?_⟩) hHeld ?_
        · intro w' hSw; go_simp
        try simp only [ν1, ν2, ν3, ν4, ν5, ν6, ν7, ν8]
        refine wpAnyH_take (i := 25) (v := .slice (some ⟨b, off, none⟩) t.length cv) rfl (by kernel_rfl) (by kernel_rfl) (by kernel_rfl) (fun _ _ _ h => h) (Or.inl ⟨by rfl, ?_⟩) hHeld ?_
        · intro w' hSw; go_simp
        try simp only [ν1, ν2, ν3, ν4, ν5, ν6, ν7, ν8]
        refine wpAnyH_take (i := 26) (v := .int .i64 ((k : Int))) rfl (by kernel_rfl) (by kernel_rfl) (by kernel_rfl) (fun _ _ _ h => h) (Or.inl ⟨by rfl, ?_⟩) hHeld ?_
        · intro w' hSw; go_simp
        try simp only [ν1, ν2, ν3, ν4, ν5, ν6, ν7, ν8]
        refine wpAnyH_take (i := 27) (v := .pointer (some ⟨b, off + k * 3, none⟩)) rfl (by kernel_rfl) (by kernel_rfl) (by kernel_rfl) (fun _ _ _ h => h) (Or.inl ⟨by rfl, ?_⟩) hHeld ?_
        · intro w' hSw; go_simp
        try simp only [ν1, ν2, ν3, ν4, ν5, ν6, ν7, ν8]
        refine wpAnyH_take (i := 28) (v := .pointer (some ⟨b, off + k * 3 + 2, none⟩)) rfl (by kernel_rfl) (by kernel_rfl) (by kernel_rfl) (fun _ _ _ h => h) (Or.inl ⟨by rfl, ?_⟩) hHeld ?_
        · intro w' hSw; go_simp
        try simp only [ν1, ν2, ν3, ν4, ν5, ν6, ν7, ν8]
        refine wpAnyH_take (i := 29) (v := .slice al x.2.2.length cl) rfl (by kernel_rfl) (by kernel_rfl) (by kernel_rfl) (fun _ _ _ h => h) (Or.inl ⟨by rfl, ?_⟩) hHeld ?_
        · intro w' hSw; have kc := (Hca.out.agree (.below hSw (Nat.le_refl _)) (Nat.zero_le _) Hba.out); obtain ⟨z0, z1, z2⟩ := branch_cells kc; go_simp
        try simp only [ν1, ν2, ν3, ν4, ν5, ν6, ν7, ν8]
        refine wpAnyH_take (i := 30) (v := .int .i64 ((x.2.2.length : Int))) rfl (by kernel_rfl) (by kernel_rfl) (by kernel_rfl) (fun _ _ _ h => h) (Or.inl ⟨by rfl, ?_⟩) hHeld ?_
        · intro w' hSw; go_simp
        try simp only [ν1, ν2, ν3, ν4, ν5, ν6, ν7, ν8]
        refine wpAnyH_take (i := 31) (v := .slice (some ⟨b2, off2, none⟩) t.length cv2) rfl (by kernel_rfl) (by kernel_rfl) (by kernel_rfl) (fun _ _ _ h => h) (Or.inl ⟨by rfl, ?_⟩) hHeld ?_
        · intro w' hSw; go_simp
        try simp only [ν1, ν2, ν3, ν4, ν5, ν6, ν7, ν8]
        refine wpAnyH_take (i := 32) (v := .int .i64 ((k : Int))) rfl (by kernel_rfl) (by kernel_rfl) (by kernel_rfl) (fun _ _ _ h => h) (Or.inl ⟨by rfl, ?_⟩) hHeld ?_
        · intro w' hSw; go_simp
        try simp only [ν1, ν2, ν3, ν4, ν5, ν6, ν7, ν8]
        refine wpAnyH_take (i := 33) (v := .pointer (some ⟨b2, off2 + k * 3, none⟩)) rfl (by kernel_rfl) (by kernel_rfl) (by kernel_rfl) (fun _ _ _ h => h) (Or.inl ⟨by rfl, ?_⟩) hHeld ?_
        · intro w' hSw; go_simp
        try simp only [ν1, ν2, ν3, ν4, ν5, ν6, ν7, ν8]
        refine wpAnyH_take (i := 34) (v := .pointer (some ⟨b2, off2 + k * 3 + 2, none⟩)) rfl (by kernel_rfl) (by kernel_rfl) (by kernel_rfl) (fun _ _ _ h => h) (Or.inl ⟨by rfl, ?_⟩) hHeld ?_
        · intro w' hSw; go_simp
        try simp only [ν1, ν2, ν3, ν4, ν5, ν6, ν7, ν8]
        refine wpAnyH_take (i := 35) (v := .slice al2 x.2.2.length cl2) rfl (by kernel_rfl) (by kernel_rfl) (by kernel_rfl) (fun _ _ _ h => h) (Or.inl ⟨by rfl, ?_⟩) hHeld ?_
        · intro w' hSw; have kc := (Hcb.out.agree (.below hSw (Nat.le_refl _)) (Nat.zero_le _) Hbb.out); obtain ⟨z0, z1, z2⟩ := branch_cells kc; go_simp
        try simp only [ν1, ν2, ν3, ν4, ν5, ν6, ν7, ν8]
        refine wpAnyH_take (i := 36) (v := .int .i64 ((x.2.2.length : Int))) rfl (by kernel_rfl) (by kernel_rfl) (by kernel_rfl) (fun _ _ _ h => h) (Or.inl ⟨by rfl, ?_⟩) hHeld ?_
        · intro w' hSw; go_simp
        try simp only [ν1, ν2, ν3, ν4, ν5, ν6, ν7, ν8]
        refine wpAnyH_take (i := 37) (v := .bool false) rfl (by kernel_rfl) (by kernel_rfl) (by kernel_rfl) (fun _ _ _ h => h) (Or.inl ⟨by rfl, ?_⟩) hHeld ?_
        · intro w' hSw; go_simp
        try simp only [ν1, ν2, ν3, ν4, ν5, ν6, ν7, ν8]
        refine wpAnyH_take (i := 38) (v := .bool false) rfl (by kernel_rfl) (by kernel_rfl) (by kernel_rfl) (fun _ _ _ h => h) (Or.inl ⟨by rfl, ?_⟩) hHeld ?_
        · intro w' hSw; go_simp
        try simp only [ν1, ν2, ν3, ν4, ν5, ν6, ν7, ν8]
        refine wpAnyH_done (by kernel_rfl) ?_ _
        have hB6 := hHeld
        clear hHeld
        have HB6 := Lib.hid hB6
        have hz6 := hB6.size
        have Hca6 := Lib.hid (Hca.out.agree (.below hB6 (Nat.le_refl _)) (Nat.zero_le _) Hba.out)
        have Hcb6 := Lib.hid (Hcb.out.agree (.below hB6 (Nat.le_refl _)) (Nat.zero_le _) Hbb.out)
        have Hla6 := Lib.hid (Sl.below Hla.out (lfE_loc (TrIn.loc d)) hB6 (by omega))
        have Hlb6 := Lib.hid (Sl.below Hlb.out (lfE_loc (TrIn.loc d)) hB6 (by omega))
        generalize wo.drew = w6 at *
        clear hB6
        go_wp2_with fail
        go_loopw [6] (fun t6 wr => ∃ j : Nat, j ≤ x.2.2.length ∧ t6 = .int .i64 j ∧ Below w6.heap.size w6 wr) (fun t6 _ => x.2.2.length - (intOf t6).toNat)
        case atStart => exact ⟨0, Nat.zero_le _, rfl, Below.refl _ _⟩
        case round =>
          obtain ⟨j, hj, rfl, hB2⟩ := hrel
          obtain ⟨wk, ewk⟩ : ∃ x, x = wr := ⟨_, rfl⟩
          subst ewk
          have HB2 := Lib.hid hB2
          have hz2 := hB2.size
          have jj0 : (0 : Int) ≤ (j : Int) := by omega
          have hca := Hca6.out.agree (.below hB2 (Nat.le_refl _)) (Nat.zero_le _) (by have := Hba.out; omega)
          have hcb := Hcb6.out.agree (.below hB2 (Nat.le_refl _)) (Nat.zero_le _) (by have := Hbb.out; omega)
          obtain ⟨y0, y1, y2⟩ := branch_cells hca
          obtain ⟨u0, u1, u2⟩ := branch_cells hcb
          have Hca2 := Lib.hid hca
          have Hcb2 := Lib.hid hcb
          clear hB2 hca hcb
          by_cases hjl : j < x.2.2.length
          · have jjl : (j : Int) < (x.2.2.length : Int) := by omega
            obtain ⟨c, oc, at', ct, e1, hc, hcc, htc⟩ := lfE_at (Sl.below Hla6.out (lfE_loc (TrIn.loc d)) HB2.out (by omega)) hjl
            obtain ⟨c2, oc2, at2, ct2, e2, hc2, hcc2, htc2⟩ := lfE_at (Sl.below Hlb6.out (lfE_loc (TrIn.loc d)) HB2.out (by omega)) hjl
            subst e1 e2
            generalize x.2.2[j] = f at *
            obtain ⟨z0, z1, z2, z3, z4⟩ := leaf_cells hcc
            have Hcc2 := Lib.hid hcc2
            have Htc := Lib.hid htc
            have Htc2 := Lib.hid htc2
            clear hcc hcc2 htc htc2
            go_upto_region 12 with fail
            have hBl := alloc_below wk (.cells #[.int .i64 f.1.kind, .int .i64 f.1.n, .string ⟨f.1.s.toArray⟩, .bool f.2.1, .slice at' (Tr.len d f.2.2) ct] 64)
            have hbl := Blk.new wk [.int .i64 f.1.kind, .int .i64 f.1.n, .string ⟨f.1.s.toArray⟩, .bool f.2.1, .slice at' (Tr.len d f.2.2) ct] 64 rfl
            generalize wk.alloc (.cells #[.int .i64 f.1.kind, .int .i64 f.1.n, .string ⟨f.1.s.toArray⟩, .bool f.2.1, .slice at' (Tr.len d f.2.2) ct] 64) = wl at *
            have Hta := Lib.hid ((TrIn.loc d).agree Htc.out (.below hBl (by omega)))
            have Htb := Lib.hid ((TrIn.loc d).agree Htc2.out (.below hBl (by omega)))
            have HBl := Lib.hid (HB2.out.trans (hBl.mono HB2.out.size))
            have hzl := hBl.size
            obtain ⟨bl, ebl⟩ : ∃ b, b = wk.heap.size := ⟨_, rfl⟩
            rw [← ebl] at hbl ⊢
            have hcb3 := Hcb2.out.agree (.below hBl (Nat.le_refl _)) (Nat.zero_le _) (by have := Hbb.out; omega)
            have hcc3 := Hcc2.out.agree (.below hBl (Nat.le_refl _)) (Nat.zero_le _) (by omega)
            obtain ⟨x0, x1, x2⟩ := branch_cells hcb3
            obtain ⟨x3, x4, x5, x6, x7⟩ := leaf_cells hcc3
            have Hbl := Lib.hid hbl
            clear ebl z0 z1 z2 z3 z4 y0 y1 y2 u0 u1 u2 hBl hbl hcb3 hcc3
            go_upto_region 13 with fail
            have hBm := alloc_below wl (.cells #[.int .i64 f.1.kind, .int .i64 f.1.n, .string ⟨f.1.s.toArray⟩, .bool f.2.1, .slice at2 (Tr.len d f.2.2) ct2] 64)
            have hbm := Blk.new wl [.int .i64 f.1.kind, .int .i64 f.1.n, .string ⟨f.1.s.toArray⟩, .bool f.2.1, .slice at2 (Tr.len d f.2.2) ct2] 64 rfl
            generalize wl.alloc (.cells #[.int .i64 f.1.kind, .int .i64 f.1.n, .string ⟨f.1.s.toArray⟩, .bool f.2.1, .slice at2 (Tr.len d f.2.2) ct2] 64) = wm at *
            have Hta2 := Lib.hid ((TrIn.loc d).agree Hta.out (.below hBm (by omega)))
            have Htb2 := Lib.hid ((TrIn.loc d).agree Htb.out (.below hBm (by omega)))
            have HBm := Lib.hid (HBl.out.trans (hBm.mono HBl.out.size))
            have hzm := hBm.size
            obtain ⟨bm, ebm⟩ : ∃ b, b = wl.heap.size := ⟨_, rfl⟩
            rw [← ebm] at hbm ⊢
            have hbl2 := Hbl.out.below hBm Hbl.out.lt
            have k1 := leaf_val hbl2.cells
            have k2 := leaf_val hbm.cells
            obtain ⟨z0, z1, z2, z3, z4⟩ := leaf_cells hbl2.cells
            obtain ⟨v0, v1, v2, v3, v4⟩ := leaf_cells hbm.cells
            simp only [Nat.zero_add] at z1 z2 z3 z4 v1 v2 v3 v4
            have hq := fun w => run_neq_same (x := f.1) w
            clear ebm x0 x1 x2 x3 x4 x5 x6 x7 hBm hbm hbl2
            go_wp2_with fail
            refine ih lo hi lo2 hi2 f.2.2 _ _ wm Hta2.out Htb2.out (by omega) (by omega) _ (fun w9 hB9 => ?_)
            have HB9 := Lib.hid (HBm.out.trans (hB9.mono HBm.out.size))
            clear z0 z1 z2 z3 z4 v0 v1 v2 v3 v4 k1 k2 hq hB9
            go_wp2_with fail
            go_roundw
            case rel => exact ⟨j + 1, by omega, by go_num, HB9.out⟩
            case measure => simp [intOf]; omega
          · obtain rfl : j = x.2.2.length := by omega
            have ljj : ¬ ((x.2.2.length : Nat) : Int) < (x.2.2.length : Int) := by omega
            clear hj hjl
            go_wp2_with fail
            go_roundw
            case rel => exact ⟨k + 1, by omega, by go_num, HB.out.trans ((HB6.out.trans (HB2.out.mono HB6.out.size)).mono HB.out.size)⟩
            case measure => simp [intOf]; omega
      · obtain rfl : k = t.length := by omega
        have llt : ¬ ((t.length : Nat) : Int) < (t.length : Int) := by omega
        have hr := HR.out wo HB.out
        clear hk
        go_wp2_with fail
        first | exact hr | exact fin hr rfl
end Go.Proofs.Yticbhfmpnmolcaa
end

/- What an entity has, as a tree: the plain law of layer 20. -/
section
set_option linter.unusedVariables false
set_option linter.unusedSimpArgs false
namespace Go.Proofs.Yticbhfmpnmolcaa
open Go.RowKit
set_option linter.unusedVariables false
set_option linter.unusedSimpArgs false

/-- An attribute's number, by its name; 0: there is none. -/
def idOf (ats : List Attr) (nm : S) : Int := (findA ats (ats.findIdx? (byName nm))).id
/-- The values of an item. -/
def valueP (a e : Int) (back : Bool) (f : Ft) : Option V :=
  if f.a ≠ a then none else if back = false then (if f.e = e then some f.v else none) else (if f.v.kind = 5 ∧ f.v.n = e then some ⟨5, f.e, []⟩ else none)
def valuesP (fs : List Ft) (ats : List Attr) (e : Int) (x : It) : List V := fs.filterMap (valueP (idOf ats x.attr) e x.back)
def cutP (x : It) (vs : List V) : List V := if 0 < x.limit then vs.take x.limit.toNat else vs
/-- A list of which an item is taken once less. -/
def lessP (x : It) (p : List It) : List It := p.map fun y => if y.attr = x.attr ∧ y.back = x.back ∧ y.wild = false then { y with rc := y.rc - 1 } else y
/-- What is taken of a leaf's entity. -/
def withinP (x : It) (p : List It) (e : Int) (path : List Int) : Option (List It) :=
  if x.nested then some x.sub else if x.rc = 0 ∨ e ∈ path then none else if x.rc < 0 then some p else some (lessP x p)
def leafP (d : Nat) (T : Int → List It → List Int → Tr d) (x : It) (p : List It) (path : List Int) (v : V) : Lf (Tr d) :=
  if v.kind = 5 then
    match withinP x p v.n path with
    | some sub => (v, true, T v.n sub (path ++ [v.n]))
    | none => (v, false, Tr.none d)
  else (v, false, Tr.none d)
/-- The leaves of an item. -/
def leavesP (fs : List Ft) (ats : List Attr) (d : Nat) (T : Int → List It → List Int → Tr d) (e : Int) (x : It) (p : List It) (path : List Int) : List (Lf (Tr d)) :=
  if cutP x (valuesP fs ats e x) = [] then (if x.has then [(x.dflt, false, Tr.none d)] else []) else (cutP x (valuesP fs ats e x)).map (leafP d T x p path)
def namedP (p : List It) (nm : S) : Bool := p.any fun i => !i.wild && i.attr == nm && !i.back
def ofAttr (a : Attr) : It := ⟨false, a.name, false, 0, false, ⟨0, 0, []⟩, false, [], 0⟩
/-- The items of a list, with what a wild one stands for. -/
def itemsP (fs : List Ft) (ats : List Attr) (e : Int) (p : List It) : List It :=
  p.filter (fun i => !i.wild) ++ if p.any It.wild then (ats.filter fun a => (fs.any fun f => f.e == e && f.a == a.id) && !namedP p a.name).map ofAttr else []
def aheadB {T : Type} (a b : Br T) : Bool := decide (Lib.compareBytes a.1 b.1 < 0) || (a.1 == b.1 && !a.2.1 && b.2.1)
def putB {T : Type} (l : List (Br T)) (b : Br T) : List (Br T) := l.takeWhile (aheadB · b) ++ b :: l.dropWhile (aheadB · b)
def addB {T : Type} (l : List (Br T)) (b : Br T) : List (Br T) := if b.2.2 = [] then l else putB l b
def branchP (fs : List Ft) (ats : List Attr) (d : Nat) (T : Int → List It → List Int → Tr d) (e : Int) (p : List It) (path : List Int) (x : It) : Br (Tr d) := (x.attr, x.back, leavesP fs ats d T e x p path)
/-- An entity's tree, so deep at most. -/
def treeP (fs : List Ft) (ats : List Attr) : (d : Nat) → Int → List It → List Int → Tr d
  | 0, _, _, _ => ()
  | d + 1, e, p, path => ((itemsP fs ats e p).map (branchP fs ats d (treeP fs ats d) e p path)).foldl addB []
theorem brs_append {T : Type} (sz : T → Nat) (l m : List (Br T)) : brsSize sz (l ++ m) = brsSize sz l + brsSize sz m := by unfold brsSize; rw [List.map_append, List.sum_append]
theorem brs_cons {T : Type} (sz : T → Nat) (b : Br T) (m : List (Br T)) : brsSize sz (b :: m) = lfsSize sz b.2.2 + brsSize sz m := by unfold brsSize; rw [List.map_cons, List.sum_cons]
theorem put_size {T : Type} (sz : T → Nat) (l : List (Br T)) (b : Br T) : brsSize sz (putB l b) = brsSize sz l + lfsSize sz b.2.2 := by
  unfold putB
  rw [brs_append, brs_cons]
  conv => rhs; rw [← List.takeWhile_append_dropWhile (p := (aheadB · b)) (l := l), brs_append]
  omega
theorem add_size {T : Type} (sz : T → Nat) (l : List (Br T)) (b : Br T) : brsSize sz (addB l b) = brsSize sz l + lfsSize sz b.2.2 := by
  unfold addB
  split
  · rename_i h; rw [h]; simp [lfsSize]
  · exact put_size sz l b
theorem adds_size {T : Type} (sz : T → Nat) : ∀ (bs l : List (Br T)), brsSize sz (bs.foldl addB l) = brsSize sz l + brsSize sz bs
  | [], l => by rw [List.foldl_nil]; simp [brsSize]
  | b :: r, l => by rw [List.foldl_cons, adds_size sz r, add_size, brs_cons]; omega
/-- A tree is as great as its branches are together. -/
theorem tree_size (fs : List Ft) (ats : List Attr) (d : Nat) (e : Int) (p : List It) (path : List Int) :
    Tr.size (d + 1) (treeP fs ats (d + 1) e p path) = brsSize (Tr.size d) ((itemsP fs ats e p).map (branchP fs ats d (treeP fs ats d) e p path)) := by
  show brsSize (Tr.size d) (List.foldl addB [] _) = _
  rw [adds_size]
  simp [brsSize]
end Go.Proofs.Yticbhfmpnmolcaa
end

/- Branches stand by their keys: which one is ahead, one put in its place, and all of them sorted. -/
section
set_option linter.unusedVariables false
set_option linter.unusedSimpArgs false
namespace Go.Proofs.Yticbhfmpnmolcaa
open Go.RowKit
set_option linter.unusedVariables false
set_option linter.unusedSimpArgs false

def b2i : Bool → Int
  | true => 1
  | false => 0
theorem b2i_inj {a b : Bool} : b2i a = b2i b ↔ a = b := by cases a <;> cases b <;> simp [b2i]
def cmpK (a b : S × Bool) : Int := if Lib.compareBytes a.1 b.1 ≠ 0 then Lib.compareBytes a.1 b.1 else icmp (b2i a.2) (b2i b.2)
theorem cmpK_cmp : Cmp cmpK where
  three a b := by
    unfold cmpK
    split
    · exact bytes_cmp.three _ _
    · exact icmp_cmp.three _ _
  zero a b := by
    unfold cmpK
    obtain ⟨a1, a2⟩ := a
    obtain ⟨b1, b2⟩ := b
    simp only [Prod.mk.injEq]
    by_cases h1 : Lib.compareBytes a1 b1 = 0
    · rw [if_neg (by simp [h1]), icmp_cmp.zero, b2i_inj]
      have e1 := (bytes_cmp.zero _ _).1 h1
      simp [e1]
    · rw [if_pos h1]
      constructor
      · intro h; exact absurd h h1
      · rintro ⟨rfl, -⟩; exact absurd ((bytes_cmp.zero _ _).2 rfl) h1
  anti a b := by
    unfold cmpK
    rw [bytes_cmp.anti a.1 b.1, icmp_cmp.anti (b2i a.2) (b2i b.2)]
    by_cases h1 : Lib.compareBytes a.1 b.1 = 0 <;> simp [h1]
  trans a b d h1 h2 := by
    unfold cmpK at *
    by_cases k1 : Lib.compareBytes a.1 b.1 = 0
    · rw [if_neg (by simp [k1])] at h1
      have e1 := (bytes_cmp.zero _ _).1 k1
      by_cases k2 : Lib.compareBytes b.1 d.1 = 0
      · rw [if_neg (by simp [k2])] at h2
        have e2 := (bytes_cmp.zero _ _).1 k2
        rw [if_neg (by rw [e1, e2]; simp [(bytes_cmp.zero d.1 d.1).2 rfl])]
        exact icmp_cmp.trans _ _ _ h1 h2
      · rw [if_pos k2] at h2
        rw [e1, if_pos k2]; exact h2
    · rw [if_pos k1] at h1
      by_cases k2 : Lib.compareBytes b.1 d.1 = 0
      · have e2 := (bytes_cmp.zero _ _).1 k2
        rw [← e2, if_pos k1]; exact h1
      · rw [if_pos k2] at h2
        have h3 := bytes_cmp.trans _ _ _ h1 h2
        rw [if_pos (by omega)]; exact h3
section
variable {T : Type}
def keyB (b : Br T) : S × Bool := (b.1, b.2.1)
theorem ahead_iff {a b : Br T} : aheadB a b = true ↔ cmpK (keyB a) (keyB b) < 0 := by
  unfold aheadB cmpK keyB
  simp only
  by_cases h1 : Lib.compareBytes a.1 b.1 = 0
  · have e1 := (bytes_cmp.zero _ _).1 h1
    rw [if_neg (by simp [h1])]
    have h0 := (bytes_cmp.zero b.1 b.1).2 rfl
    cases a.2.1 <;> cases b.2.1 <;> simp [e1, b2i, icmp, h0]
  · have e1 : ¬ a.1 = b.1 := fun e => h1 ((bytes_cmp.zero _ _).2 e)
    rw [if_pos h1]
    simp [e1]
/-- Branches rise by their keys. -/
def UpB (l : List (Br T)) : Prop := l.Pairwise fun a b => cmpK (keyB a) (keyB b) < 0
theorem putB_perm (l : List (Br T)) (b : Br T) : (putB l b).Perm (b :: l) := by
  unfold putB
  refine List.perm_middle.trans ?_
  rw [List.takeWhile_append_dropWhile]
theorem putB_up {l : List (Br T)} {b : Br T} (h : UpB l) (hn : ∀ x ∈ l, keyB x ≠ keyB b) : UpB (putB l b) := by
  unfold putB
  unfold UpB at *
  have hsplit := List.takeWhile_append_dropWhile (p := (aheadB · b)) (l := l)
  rw [← hsplit, List.pairwise_append] at h
  obtain ⟨h1, h2, h3⟩ := h
  have htk : ∀ x ∈ l.takeWhile (aheadB · b), cmpK (keyB x) (keyB b) < 0 := fun x hx => ahead_iff.1 (by
    have := List.all_takeWhile (p := (aheadB · b)) (l := l)
    rw [List.all_eq_true] at this
    exact this x hx)
  have hdr : ∀ x ∈ l.dropWhile (aheadB · b), cmpK (keyB b) (keyB x) < 0 := by
    intro x hx
    cases hd : l.dropWhile (aheadB · b) with
    | nil => rw [hd] at hx; cases hx
    | cons y r =>
      have hy : aheadB y b = false := by
        have h4 := List.head?_dropWhile_not (p := (aheadB · b)) (l := l)
        rw [hd] at h4
        simpa using h4
      have hyl : y ∈ l := by rw [← hsplit, hd]; simp
      have hyb : cmpK (keyB b) (keyB y) < 0 := by
        have h5 : ¬ cmpK (keyB y) (keyB b) < 0 := fun e => by rw [ahead_iff.2 e] at hy; cases hy
        have h6 : cmpK (keyB y) (keyB b) ≠ 0 := fun e => hn y hyl ((cmpK_cmp.zero _ _).1 e)
        have h7 := cmpK_cmp.anti (keyB y) (keyB b)
        omega
      rw [hd] at hx h2
      rcases List.mem_cons.1 hx with rfl | hx
      · exact hyb
      · exact cmpK_cmp.trans _ _ _ hyb ((List.pairwise_cons.1 h2).1 x hx)
  rw [List.pairwise_append, List.pairwise_cons]
  refine ⟨h1, ⟨hdr, h2⟩, fun x hx y hy => ?_⟩
  rcases List.mem_cons.1 hy with rfl | hy
  · exact htk x hx
  · exact h3 x hx y hy
/-- Those that have leaves. -/
def fullB (bs : List (Br T)) : List (Br T) := bs.filter fun b => !b.2.2.isEmpty
theorem adds_perm : ∀ (bs l : List (Br T)), (bs.foldl addB l).Perm (fullB bs ++ l)
  | [], l => by rw [List.foldl_nil]; exact List.Perm.refl _
  | b :: r, l => by
    rw [List.foldl_cons]
    refine (adds_perm r _).trans ?_
    unfold addB fullB
    by_cases h : b.2.2 = []
    · rw [if_pos h, List.filter_cons, if_neg (by simp [h])]
    · rw [if_neg h, List.filter_cons, if_pos (by simp [h])]
      refine (List.Perm.append_left _ (putB_perm l b)).trans ?_
      exact List.perm_middle
theorem adds_up : ∀ (bs l : List (Br T)), UpB l → (bs ++ l).Pairwise (fun a b => keyB a ≠ keyB b) → UpB (bs.foldl addB l)
  | [], l, h, _ => h
  | b :: r, l, h, hk => by
    rw [List.foldl_cons]
    rw [List.cons_append, List.pairwise_cons] at hk
    obtain ⟨hk1, hk2⟩ := hk
    have hl : UpB (addB l b) := by
      unfold addB
      split
      · exact h
      · exact putB_up h (fun x hx e => hk1 x (List.mem_append_right _ hx) e.symm)
    refine adds_up r _ hl ?_
    have hperm : (addB l b).Perm l ∨ (addB l b).Perm (b :: l) := by
      unfold addB
      split
      · exact .inl (List.Perm.refl _)
      · exact .inr (putB_perm l b)
    rw [List.pairwise_append] at hk2 ⊢
    refine ⟨hk2.1, ?_, fun x hx y hy => ?_⟩
    · refine List.Pairwise.imp (fun {a b} h e => ?_) hl
      rw [(cmpK_cmp.zero _ _).2 e] at h
      omega
    · rcases hperm with hp | hp
      · exact hk2.2.2 x hx y (hp.mem_iff.1 hy)
      · rcases List.mem_cons.1 (hp.mem_iff.1 hy) with rfl | hy
        · exact fun e => hk1 x (List.mem_append_left _ hx) e.symm
        · exact hk2.2.2 x hx y hy
theorem up_unique : ∀ {l m : List (Br T)}, UpB l → UpB m → l.Perm m → l = m
  | [], m, _, _, h => (List.Perm.nil_eq h)
  | a :: l, [], _, _, h => by have := h.length_eq; simp at this
  | a :: l, b :: m, hl, hm, h => by
    obtain ⟨h1, h2⟩ := List.pairwise_cons.1 hl
    obtain ⟨h3, h4⟩ := List.pairwise_cons.1 hm
    have e : a = b := by
      rcases List.mem_cons.1 (h.mem_iff.1 (List.mem_cons_self ..)) with e | e
      · exact e
      · rcases List.mem_cons.1 (h.symm.mem_iff.1 (List.mem_cons_self ..)) with e2 | e2
        · exact e2.symm
        · have k1 := h3 a e
          have k2 := h1 b e2
          have k3 := cmpK_cmp.anti (keyB a) (keyB b)
          omega
    subst e
    rw [up_unique h2 h4 ((List.perm_cons a).1 h)]
/-- What is sorted is what was put one by one. -/
theorem sort_adds {bs xs : List (Br T)} (hk : bs.Pairwise fun a b => keyB a ≠ keyB b) (hp : xs.Perm (fullB bs)) (hs : xs.Pairwise fun a b => ¬ cmpK (keyB b) (keyB a) < 0) : xs = bs.foldl addB [] := by
  have h1 := adds_perm bs []
  rw [List.append_nil] at h1
  have hkf : (fullB bs).Pairwise fun a b => keyB a ≠ keyB b := List.Pairwise.filter _ hk
  have hkx : xs.Pairwise fun a b => keyB a ≠ keyB b := (hp.pairwise_iff (fun {a b} h e => h e.symm)).2 hkf
  refine up_unique ?_ (adds_up bs [] List.Pairwise.nil (by rw [List.append_nil]; exact hk)) (hp.trans h1.symm)
  refine (hs.and hkx).imp ?_
  rintro a b ⟨h2, h3⟩
  have h4 : cmpK (keyB a) (keyB b) ≠ 0 := fun e => h3 ((cmpK_cmp.zero _ _).1 e)
  have h5 := cmpK_cmp.anti (keyB a) (keyB b)
  omega
end
end Go.Proofs.Yticbhfmpnmolcaa
end

/- Patterns that may be: lists of which an item is taken once less; the keys of a list's items. -/
section
set_option linter.unusedVariables false
set_option linter.unusedSimpArgs false
namespace Go.Proofs.Yticbhfmpnmolcaa
open Go.RowKit
set_option linter.unusedVariables false
set_option linter.unusedSimpArgs false

theorem listOk_one {l : List It} (h : listOk l = true) {i : Nat} (hi : i < l.length) : itOne l[i] = true := by
  have h1 := List.all_eq_true.1 h i (List.mem_range.2 hi)
  unfold itemOk at h1
  rw [Bool.and_eq_true, List.getD_eq_getElem?_getD, List.getElem?_eq_getElem hi] at h1
  exact h1.1
theorem listOk_apart {l : List It} (h : listOk l = true) {i k : Nat} (hi : i < l.length) (hk : k < i) : alikeB l[i] (l[k]'(by omega)) = false := by
  have h1 := List.all_eq_true.1 h i (List.mem_range.2 hi)
  unfold itemOk at h1
  rw [Bool.and_eq_true, List.all_eq_true] at h1
  have h2 := h1.2 k (List.mem_range.2 hk)
  rw [List.getD_eq_getElem?_getD, List.getElem?_eq_getElem hi, List.getD_eq_getElem?_getD, List.getElem?_eq_getElem (show k < l.length by omega)] at h2
  simpa using h2
theorem listOk_of {l : List It} (h1 : ∀ i (hi : i < l.length), itOne l[i] = true) (h2 : ∀ i k (hi : i < l.length) (hk : k < i), alikeB l[i] (l[k]'(by omega)) = false) : listOk l = true := by
  unfold listOk
  rw [List.all_eq_true]
  intro i hi
  have hi := List.mem_range.1 hi
  exact itemOk_good hi (h1 i hi) (fun k hk => h2 i k hi hk)
theorem alikeB_symm (x y : It) : alikeB x y = alikeB y x := by
  rw [Bool.eq_iff_iff]
  unfold alikeB
  simp only [Bool.and_eq_true, beq_iff_eq]
  exact ⟨fun ⟨⟨a, b⟩, c⟩ => ⟨⟨a.symm, b.symm⟩, c.symm⟩, fun ⟨⟨a, b⟩, c⟩ => ⟨⟨a.symm, b.symm⟩, c.symm⟩⟩
theorem listOk_ne {l : List It} (h : listOk l = true) {i k : Nat} (hi : i < l.length) (hk : k < l.length) (hn : i ≠ k) : alikeB l[i] l[k] = false := by
  rcases Nat.lt_or_gt_of_ne hn with hlt | hgt
  · rw [alikeB_symm]; exact listOk_apart h hk hlt
  · exact listOk_apart h hi hgt
/-- The item that is taken once less is the one that stands there. -/
theorem less_at {p : List It} (h : listOk p = true) {j : Nat} (hj : j < p.length) (hw : p[j].wild = false) : lessP p[j] p = p.set j { p[j] with rc := p[j].rc - 1 } := by
  unfold lessP
  refine List.ext_getElem (by simp) (fun i h1 h2 => ?_)
  rw [List.getElem_map, List.getElem_set]
  have hi : i < p.length := by simpa using h1
  by_cases e : j = i
  · subst e
    rw [if_pos ⟨rfl, rfl, hw⟩, if_pos rfl]
  · rw [if_neg e, if_neg]
    rintro ⟨k1, k2, k3⟩
    have := listOk_ne h hi hj (fun e2 => e e2.symm)
    unfold alikeB at this
    rw [k1, k2, k3, hw] at this
    simp at this
theorem one_less {x : It} (h : itOne x = true) (hw : x.wild = false) (hr : 0 < x.rc) : itOne { x with rc := x.rc - 1 } = true := by
  obtain ⟨wild, attr, back, limit, has, dflt, nested, sub, rc⟩ := x
  simp only at hw hr
  subst hw
  have hrc : ¬ rc = 0 := by omega
  unfold itOne at h ⊢
  simp only [Bool.false_eq_true, if_false] at h ⊢
  cases has <;> cases nested <;> simp [hrc] at h ⊢
  · obtain ⟨⟨⟨⟨⟨⟨h1, h2⟩, h3⟩, h4⟩, h5⟩, h6⟩, h7⟩ := h
    exact ⟨List.count_le_length, ⟨⟨⟨⟨⟨⟨h1, h2⟩, h3⟩, by omega⟩, by omega⟩, h6⟩, h7⟩⟩
theorem less_one {p : List It} (h : listOk p = true) {j : Nat} (hj : j < p.length) (hw : p[j].wild = false) (hr : 0 < p[j].rc) : listOk (lessP p[j] p) = true := by
  rw [less_at h hj hw]
  have hg : ∀ i (hi : i < (p.set j { p[j] with rc := p[j].rc - 1 }).length), (p.set j { p[j] with rc := p[j].rc - 1 })[i].wild = (p[i]'(by simpa using hi)).wild ∧ (p.set j { p[j] with rc := p[j].rc - 1 })[i].attr = (p[i]'(by simpa using hi)).attr ∧ (p.set j { p[j] with rc := p[j].rc - 1 })[i].back = (p[i]'(by simpa using hi)).back := by
    intro i hi
    rw [List.getElem_set]
    by_cases e : j = i
    · subst e; rw [if_pos rfl]; exact ⟨rfl, rfl, rfl⟩
    · rw [if_neg e]; exact ⟨rfl, rfl, rfl⟩
  refine listOk_of (fun i hi => ?_) (fun i k hi hk => ?_)
  · have hi2 : i < p.length := by simpa using hi
    rw [List.getElem_set]
    by_cases e : j = i
    · subst e; rw [if_pos rfl]; exact one_less (listOk_one h hj) hw hr
    · rw [if_neg e]; exact listOk_one h hi2
  · have hi2 : i < p.length := by simpa using hi
    obtain ⟨a1, a2, a3⟩ := hg i hi
    obtain ⟨b1, b2, b3⟩ := hg k (by omega)
    have := listOk_apart h hi2 hk
    unfold alikeB at this ⊢
    rw [a1, a2, a3, b1, b2, b3]
    exact this
theorem less_fine {p : List It} (h : finePat p = true) {j : Nat} (hj : j < p.length) (hw : p[j].wild = false) (hr : 0 < p[j].rc) : finePat (lessP p[j] p) = true := by
  unfold finePat at h ⊢
  rw [Bool.and_eq_true] at h ⊢
  refine ⟨less_one h.1 hj hw hr, ?_⟩
  have h2 := h.2
  rw [fineA_all, List.all_eq_true] at h2 ⊢
  rw [less_at h.1 hj hw]
  intro x hx
  rcases List.mem_or_eq_of_mem_set hx with hx | rfl
  · exact h2 x hx
  · have := h2 p[j] (List.getElem_mem hj)
    rw [It.fineI_eq] at this ⊢
    exact this
theorem sub_fine {p : List It} (h : finePat p = true) {x : It} (hx : x ∈ p) (hn : x.nested = true) : finePat x.sub = true := by
  unfold finePat at h
  rw [Bool.and_eq_true, fineA_all, List.all_eq_true] at h
  have := h.2 x hx
  rw [It.fineI_eq, hn] at this
  exact this
theorem fine_one {p : List It} (h : finePat p = true) {x : It} (hx : x ∈ p) : itOne x = true := by
  unfold finePat at h
  rw [Bool.and_eq_true] at h
  obtain ⟨i, hi, rfl⟩ := List.getElem_of_mem hx
  exact listOk_one h.1 hi
/-- The keys of a list's items are apart. -/
def keyI (x : It) : S × Bool := (x.attr, x.back)
theorem keys_apart {fs : List Ft} {ats : List Attr} {e : Int} {p : List It} (h : finePat p = true) (hn : ats.Pairwise fun a b => a.name ≠ b.name) : (itemsP fs ats e p).Pairwise fun x y => keyI x ≠ keyI y := by
  have hl : listOk p = true := by unfold finePat at h; rw [Bool.and_eq_true] at h; exact h.1
  unfold itemsP
  have hp : p.Pairwise fun x y => alikeB x y = false := by
    rw [List.pairwise_iff_getElem]
    intro i k hi hk hik
    rw [alikeB_symm]; exact listOk_apart hl hk hik
  rw [List.pairwise_append]
  refine ⟨?_, ?_, fun x hx y hy e2 => ?_⟩
  · refine List.Pairwise.imp_of_mem ?_ (List.Pairwise.filter (fun i : It => !i.wild) hp)
    intro x y hx hy ha e2
    have hxw : x.wild = false := by have := (List.mem_filter.1 hx).2; simpa using this
    have hyw : y.wild = false := by have := (List.mem_filter.1 hy).2; simpa using this
    unfold keyI at e2
    injection e2 with e3 e4
    unfold alikeB at ha
    rw [hxw, hyw, e3, e4] at ha
    simp at ha
  · split
    · rw [List.pairwise_map]
      refine List.Pairwise.imp ?_ (List.Pairwise.filter _ hn)
      intro a b hab e2
      unfold keyI ofAttr at e2
      injection e2 with e3 e4
      exact hab e3
    · exact List.Pairwise.nil
  · have hxw : x.wild = false := by have := (List.mem_filter.1 hx).2; simpa using this
    have hxp := (List.mem_filter.1 hx).1
    split at hy
    · obtain ⟨a, ha, rfl⟩ := List.mem_map.1 hy
      have := (List.mem_filter.1 ha).2
      rw [Bool.and_eq_true] at this
      have hnm : namedP p a.name = false := by simpa using this.2
      unfold namedP at hnm
      rw [List.any_eq_false] at hnm
      have := hnm x hxp
      unfold keyI ofAttr at e2
      injection e2 with e3 e4
      rw [hxw, e3, e4] at this
      simp at this
    · cases hy
end Go.Proofs.Yticbhfmpnmolcaa
end

/- The document's values of an item. (Printed by pulg.py.) -/
section
set_option linter.unusedVariables false
set_option linter.unusedSimpArgs false
namespace Go.Proofs.Yticbhfmpnmolcaa
open Go.RowKit
set_option linter.unusedVariables false
set_option linter.unusedSimpArgs false
abbrev OwnV := Own V.enc 39 3
theorem infoV : (Try.prog.info? 39).map (fun i => (i.zero, i.size, i.bytes)) = some (some (.agg #[.int .i64 0, .int .i64 0, .string ⟨#[]⟩]), 3, 32) := by kernel_rfl
theorem appV1 {w : World} {lo : Nat} {v : Value} {xs : List V} (h : OwnV lo w v xs) (x : V) {n : Nat} (hn : n = w.heap.size) (hb : xs.length ≤ 2000000000007) (hlo : lo ≤ w.heap.size) :
    ∃ v' w', (Builtin.append_ #[106, 106] 106 #[v, .slice (some ⟨n, 0, none⟩) 1 1]).run Try.prog (w.alloc (.cells #[.int .i64 x.kind, .int .i64 x.n, .string ⟨x.s.toArray⟩] 39)) = .ok v' w' ∧ OwnV lo w' v' (xs ++ [x]) ∧ Appended w v w' v' := by
  subst hn
  have hB := alloc_below w (.cells x.enc.toArray 39)
  obtain ⟨i0, hi, hz0, hz1, hz2⟩ := info_parts infoV
  have hc := CellsAt.newAt w x.enc 39 rfl
  have hs : Src Try.prog 3 106 (.slice (some ⟨w.heap.size, 0, none⟩) 1 1) [x].length ([x].flatMap V.enc) (w.alloc (.cells x.enc.toArray 39)) :=
    Src.ofSlice _ Try.underlying106 _ _ _ _ (by simp [V.enc]) (fun j u hu => by rw [Addr.add_lit]; exact hc j u (by simpa using hu)) (fun u hu => by
      simp only [List.flatMap_cons, List.flatMap_nil, List.append_nil, V.enc, List.mem_cons, List.not_mem_nil, or_false] at hu
      rcases hu with rfl | rfl | rfl <;> rfl)
  obtain ⟨v', w', hr, ho, ha⟩ := (Own.kept h hB).app _ _ _ i0 _ 32 Try.underlying106 hi hz0 hz1 hz2 rfl hs (by simp only [List.length_cons, List.length_nil]; omega) (by omega) (Nat.le_trans hlo hB.size)
  exact ⟨v', w', hr, ho, (Appended.step v hB).trans ha⟩
theorem OwnV.sl {lo : Nat} {w : World} {v : Value} {xs : List V} (h : OwnV lo w v xs) : Sl (flat V.enc) 3 lo w.heap.size w v xs := Sl.ofOwn (fun _ => rfl) h
theorem Own.slice {α : Type} {enc : α → List Value} {e : TypeId} {size lo : Nat} {w : World} {v : Value} {xs : List α} (h : Own enc e size lo w v xs) : ∃ p cap, v = .slice p xs.length cap := by
  rcases h.2 with ⟨e1, e2⟩ | ⟨g, cap, cur, e1, -⟩
  · exact ⟨none, 0, by rw [e1, e2]⟩
  · exact ⟨_, cap, e1⟩
/-- What a region does, whatever its order: one frame and one saying of its world, from which the rest goes on. -/
def MeetPost {ι : Type} (ds : ι → List (Tmp × Value)) (F : ι → World → Prop) (a0 : Act) : Exit → Act → World → Prop
  | .normal, a, w => ∃ i, a = (ds i).foldl (fun a p => a.put (some p.1) p.2) a0 ∧ F i w
  | _, _, _ => False
theorem region_meet {P : Program} {ops : Array Oper} {id : Nat} {dr : Bool} {Q : Exit → Act → World → Prop} {a0 : Act} {w : World} {ι : Type} (ds : ι → List (Tmp × Value)) (F : ι → World → Prop)
    (h1 : (Code.region id ops dr).wp P (MeetPost ds F a0) a0 w)
    (h2 : ∀ i w', F i w' → Q .normal ((ds i).foldl (fun a p => a.put (some p.1) p.2) a0) w') : (Code.region id ops dr).wp P Q a0 w :=
  Code.wp_mono (fun e a w' h => by
    cases e with
    | normal => obtain ⟨i, rfl, hf⟩ := h; exact h2 i w' hf
    | _ => exact h.elim) h1
/-- The document's puller: B its block; facts lie ahead of it, attributes behind. -/
structure PulR (B hA : Nat) (w : World) (lv av : Value) (fs : List Ft) (ats : List Attr) (n : Int) : Prop where
  blk : Blk w B [lv, av, .int .i64 n] 57
  facts : Fts 0 B w lv fs
  attrs : Attrs (B + 1) hA w av ats
  le : hA ≤ w.heap.size
theorem PulR.below {B hA : Nat} {w w' : World} {lv av : Value} {fs : List Ft} {ats : List Attr} {n : Int} (h : PulR B hA w lv av fs ats n) (hB : Below w.heap.size w w') : PulR B hA w' lv av fs ats n :=
  ⟨h.blk.below hB h.blk.lt, Sl.below h.facts ftE_loc hB (Nat.le_of_lt h.blk.lt), Sl.below h.attrs Attrs.loc hB h.le, Nat.le_trans h.le hB.size⟩
theorem PulR.turn {B hA : Nat} {w w' : World} {lv av : Value} {fs : List Ft} {ats : List Attr} {n n' : Int} (h : PulR B hA w lv av fs ats n) (hO : Only (· = B) w w') (hb : Blk w' B [lv, av, .int .i64 n'] 57) : PulR B hA w' lv av fs ats n' :=
  ⟨hb, Sl.agree h.facts ftE_loc (hO.agree (Nat.le_of_lt h.blk.lt) (fun k e => .inr (by have : k = B := e; omega))), Sl.agree h.attrs Attrs.loc (hO.agree h.le (fun k e => .inl (by have : k = B := e; omega))), Nat.le_trans h.le hO.size⟩
theorem valuesP_take (fs : List Ft) (ats : List Attr) (e : Int) (x : It) {k : Nat} (hk : k < fs.length) : valuesP (fs.take (k + 1)) ats e x = valuesP (fs.take k) ats e x ++ (valueP (idOf ats x.attr) e x.back fs[k]).toList := by
  unfold valuesP
  rw [List.take_succ_eq_append_getElem hk, List.filterMap_append]
  congr 1
theorem valuesP_len (fs : List Ft) (ats : List Attr) (e : Int) (x : It) : (valuesP fs ats e x).length ≤ fs.length := List.length_filterMap_le _ _
set_option maxRecDepth 100000 in
set_option maxHeartbeats 8000000 in
theorem refValues_any (B hA : Nat) (lv av : Value) (fs : List Ft) (ats : List Attr) (n e : Int) (x : It) (p : Option Addr) (c : Nat) (w : World) (hP : PulR B hA w lv av fs ats n) (hl : x.lens) (hlen : fs.length ≤ 2000000000000) (R : Ending → World → Prop)
    (hR : ∀ w' v, Below w.heap.size w w' → Sl (flat V.enc) 3 w.heap.size w'.heap.size w' v (cutP x (valuesP fs ats e x)) → R (.returned v) w') :
    Calls Try.prog 59 #[.pointer (some ⟨B, 0, none⟩), .int .i64 e, .agg #[.bool x.wild, .string ⟨x.attr.toArray⟩, .bool x.back, .int .i64 x.limit, .bool x.has, .int .i64 x.dflt.kind, .int .i64 x.dflt.n, .string ⟨x.dflt.s.toArray⟩, .bool x.nested, .slice p x.sub.length c, .int .i64 x.rc]] w R := by
  have HR := Lib.hid hR
  have HP := Lib.hid hP
  obtain ⟨al, cl, rfl, -, -, -, -⟩ := hP.facts.form
  obtain ⟨aa, ca, rfl, -, -, -, -⟩ := hP.attrs.form
  have hal63 := hP.attrs.len
  have hBx := alloc_below w (.cells #[.bool x.wild, .string ⟨x.attr.toArray⟩, .bool x.back, .int .i64 x.limit, .bool x.has, .int .i64 x.dflt.kind, .int .i64 x.dflt.n, .string ⟨x.dflt.s.toArray⟩, .bool x.nested, .slice p x.sub.length c, .int .i64 x.rc] 66)
  have hbx := Blk.new w [.bool x.wild, .string ⟨x.attr.toArray⟩, .bool x.back, .int .i64 x.limit, .bool x.has, .int .i64 x.dflt.kind, .int .i64 x.dflt.n, .string ⟨x.dflt.s.toArray⟩, .bool x.nested, .slice p x.sub.length c, .int .i64 x.rc] 66 rfl
  clear hR hP
  go_enter Try.func59, Try.ntmps59
  go_upto_region 1 with fail
  generalize w.alloc (.cells #[.bool x.wild, .string ⟨x.attr.toArray⟩, .bool x.back, .int .i64 x.limit, .bool x.has, .int .i64 x.dflt.kind, .int .i64 x.dflt.n, .string ⟨x.dflt.s.toArray⟩, .bool x.nested, .slice p x.sub.length c, .int .i64 x.rc] 66) = w1 at *
  have HB := Lib.hid hBx
  have HP1 := Lib.hid (HP.out.below hBx)
  obtain ⟨bx, ebx⟩ : ∃ b, b = w.heap.size := ⟨_, rfl⟩
  rw [← ebx] at hbx ⊢
  have Hbx := Lib.hid hbx
  obtain ⟨A, hA2⟩ : ∃ A, A = findA ats (ats.findIdx? (byName x.attr)) := ⟨_, rfl⟩
  have HA := Lib.hid hA2
  obtain ⟨iq, hiq⟩ : ∃ iq, iq = (ats.findIdx? (byName x.attr)).isSome := ⟨_, rfl⟩
  have Hiq := Lib.hid hiq
  have hz1 := hBx.size
  clear hbx hBx ebx hA2 hiq
  refine region_meet (ι := Nat) (fun b7 => [(13, .pointer (some ⟨B, 0, none⟩)), (14, .pointer (some ⟨B, 0, none⟩)), (15, .pointer (some ⟨B, 1, none⟩)), (16, .slice aa ats.length ca), (17, .pointer (some ⟨bx, 1, none⟩)), (18, .string ⟨x.attr.toArray⟩), (19, .tuple #[.agg #[.int .i64 A.id, .string ⟨A.name.toArray⟩, .int .i64 A.type, .bool A.many, .int .i64 A.unique, .bool A.part, .bool A.index], .bool iq]), (12, .tuple #[.agg #[.int .i64 A.id, .string ⟨A.name.toArray⟩, .int .i64 A.type, .bool A.many, .int .i64 A.unique, .bool A.part, .bool A.index], .bool iq]), (20, .agg #[.int .i64 A.id, .string ⟨A.name.toArray⟩, .int .i64 A.type, .bool A.many, .int .i64 A.unique, .bool A.part, .bool A.index]), (21, .bool iq), (7, .pointer (some ⟨b7, 0, none⟩)), (8, .bool iq)]) (fun b7 w' => Below w1.heap.size w1 w' ∧ Blk w' b7 [.int .i64 A.id, .string ⟨A.name.toArray⟩, .int .i64 A.type, .bool A.many, .int .i64 A.unique, .bool A.part, .bool A.index] 28) ?_ ?_
  · refine wp_region_held_drew (S := fun w' => Below w1.heap.size w1 w') (by kernel_rfl) (Below.refl _ _).drew (fun hHeld => ?_)
    refine wpAnyH_take (i := 0) (v := .pointer (some ⟨B, 0, none⟩)) rfl (by kernel_rfl) (by kernel_rfl) (by kernel_rfl) (fun _ _ _ h => h) (Or.inl ⟨by rfl, ?_⟩) hHeld ?_
    · intro w' hSw; go_simp
    try simp only [ν1, ν2, ν3, ν4, ν5, ν6, ν7, ν8]
    refine wpAnyH_take (i := 1) (v := .pointer (some ⟨B, 0, none⟩)) rfl (by kernel_rfl) (by kernel_rfl) (by kernel_rfl) (fun _ _ _ h => h) (Or.inl ⟨by rfl, ?_⟩) hHeld ?_
    · intro w' hSw; go_simp
    try simp only [ν1, ν2, ν3, ν4, ν5, ν6, ν7, ν8]
    refine wpAnyH_take (i := 2) (v := .pointer (some ⟨B, 1, none⟩)) rfl (by kernel_rfl) (by kernel_rfl) (by kernel_rfl) (fun _ _ _ h => h) (Or.inl ⟨by rfl, ?_⟩) hHeld ?_
    · intro w' hSw; go_simp
    try simp only [ν1, ν2, ν3, ν4, ν5, ν6, ν7, ν8]
    refine wpAnyH_take (i := 3) (v := .slice aa ats.length ca) rfl (by kernel_rfl) (by kernel_rfl) (by kernel_rfl) (fun _ _ _ h => h) (Or.inl ⟨by rfl, ?_⟩) hHeld ?_
    · intro w' hSw; have kc := (HP1.out.below hSw).blk.cells; have k1 := kc 1 _ rfl; simp only [Nat.zero_add] at k1; go_simp
    try simp only [ν1, ν2, ν3, ν4, ν5, ν6, ν7, ν8]
    refine wpAnyH_take (i := 4) (v := .pointer (some ⟨bx, 1, none⟩)) rfl (by kernel_rfl) (by kernel_rfl) (by kernel_rfl) (fun _ _ _ h => h) (Or.inl ⟨by rfl, ?_⟩) hHeld ?_
    · intro w' hSw; go_simp
    try simp only [ν1, ν2, ν3, ν4, ν5, ν6, ν7, ν8]
    refine wpAnyH_take (i := 5) (v := .string ⟨x.attr.toArray⟩) rfl (by kernel_rfl) (by kernel_rfl) (by kernel_rfl) (fun _ _ _ h => h) (Or.inl ⟨by rfl, ?_⟩) hHeld ?_
    · intro w' hSw; have kc := (Hbx.out.below hSw Hbx.out.lt).cells; obtain ⟨k0, k1, k2, k3, k4, k5, k6, k7, k8, k9, k10⟩ := item_cells kc; simp only [Nat.zero_add] at k1; go_simp
    try simp only [ν1, ν2, ν3, ν4, ν5, ν6, ν7, ν8]
    refine wpAnyH_ready (rs := [6, 10]) (by kernel_rfl) (by simp) ?_
    refine allCall (f := 18) (args := #[.slice aa ats.length ca, .string ⟨x.attr.toArray⟩]) rfl (by kernel_rfl) (by kernel_rfl) ?_ ?_
    · refine refByName_any (B + 1) hA _ ats x.attr w1.drew (Sl.below HP1.out.attrs Attrs.loc hHeld HP1.out.le) (Nat.le_trans HP1.out.le hHeld.size) _ (fun wm1  hB => ?_)
      rw [← HA.out, ← Hiq.out]
      refine ⟨_, rfl, hHeld.trans (hB.mono hHeld.size), ?_⟩
      have hHeld2 := hHeld.trans (hB.mono hHeld.size)
      clear hHeld
      have hHeld := hHeld2
      clear hHeld2 hB
      try simp only [ν1, ν2, ν3, ν4, ν5, ν6, ν7, ν8]
      refine wpAnyH_take (i := 7) (v := .tuple #[.agg #[.int .i64 A.id, .string ⟨A.name.toArray⟩, .int .i64 A.type, .bool A.many, .int .i64 A.unique, .bool A.part, .bool A.index], .bool iq]) rfl (by kernel_rfl) (by kernel_rfl) (by kernel_rfl) (fun _ _ _ h => h) (Or.inl ⟨by rfl, ?_⟩) hHeld ?_
      · intro w' hSw; go_simp
      try simp only [ν1, ν2, ν3, ν4, ν5, ν6, ν7, ν8]
      refine wpAnyH_take (i := 8) (v := .agg #[.int .i64 A.id, .string ⟨A.name.toArray⟩, .int .i64 A.type, .bool A.many, .int .i64 A.unique, .bool A.part, .bool A.index]) rfl (by kernel_rfl) (by kernel_rfl) (by kernel_rfl) (fun _ _ _ h => h) (Or.inl ⟨by rfl, ?_⟩) hHeld ?_
      · intro w' hSw; go_simp
      try simp only [ν1, ν2, ν3, ν4, ν5, ν6, ν7, ν8]
      refine wpAnyH_take (i := 9) (v := .bool iq) rfl (by kernel_rfl) (by kernel_rfl) (by kernel_rfl) (fun _ _ _ h => h) (Or.inl ⟨by rfl, ?_⟩) hHeld ?_
      · intro w' hSw; go_simp
      try simp only [ν1, ν2, ν3, ν4, ν5, ν6, ν7, ν8]
      refine wpAnyH_ready (rs := [10]) (by kernel_rfl) (by simp) ?_
      refine allVal (v := .pointer (some ⟨wm1.heap.size, 0, none⟩)) (w' := wm1.alloc (.cells #[.int .i64 0, .string ⟨#[]⟩, .int .i64 0, .bool false, .int .i64 0, .bool false, .bool false] 28)) rfl (by kernel_rfl) (by go_simp) (hHeld.trans ((alloc_below wm1 (.cells #[.int .i64 0, .string ⟨#[]⟩, .int .i64 0, .bool false, .int .i64 0, .bool false, .bool false] 28)).mono hHeld.size)) ?_ AllReadyH.nil
      have hB := alloc_below wm1 (.cells #[.int .i64 0, .string ⟨#[]⟩, .int .i64 0, .bool false, .int .i64 0, .bool false, .bool false] 28)
      have hbn := Blk.new wm1 [.int .i64 0, .string ⟨#[]⟩, .int .i64 0, .bool false, .int .i64 0, .bool false, .bool false] 28 rfl
      have hbkl := hHeld.size
      generalize wm1.alloc (.cells #[.int .i64 0, .string ⟨#[]⟩, .int .i64 0, .bool false, .int .i64 0, .bool false, .bool false] 28) = wm2 at *
      obtain ⟨b7, eb⟩ : ∃ b, b = wm1.heap.size := ⟨_, rfl⟩
      rw [← eb] at hbn hbkl ⊢
      clear eb
      have hHeld2 := hHeld.trans (hB.mono hHeld.size)
      clear hHeld
      have hHeld := hHeld2
      clear hHeld2 hB
      have hbk := hbn
      clear hbn
      try simp only [ν1, ν2, ν3, ν4, ν5, ν6, ν7, ν8]
      refine wpAnyH_ready (rs := [11]) (by kernel_rfl) (by simp) ?_
      have zc := hbk.cells
      have z0 := zc 0 _ rfl
      have z1 := zc 1 _ rfl
      have z2 := zc 2 _ rfl
      have z3 := zc 3 _ rfl
      have z4 := zc 4 _ rfl
      have z5 := zc 5 _ rfl
      have z6 := zc 6 _ rfl
      simp only [Nat.zero_add] at z0 z1 z2 z3 z4 z5 z6
      have zl := hbk.lt
      have zf0 := hbk.free 0
      have zf1 := hbk.free 1
      have zf2 := hbk.free 2
      have zf3 := hbk.free 3
      have zf4 := hbk.free 4
      have zf5 := hbk.free 5
      have zf6 := hbk.free 6
      refine allSkip (w' := (((((((wm2.setCell ⟨b7, 0, none⟩ (.int .i64 A.id)).setCell ⟨b7, 1, none⟩ (.string ⟨A.name.toArray⟩)).setCell ⟨b7, 2, none⟩ (.int .i64 A.type)).setCell ⟨b7, 3, none⟩ (.bool A.many)).setCell ⟨b7, 4, none⟩ (.int .i64 A.unique)).setCell ⟨b7, 5, none⟩ (.bool A.part)).setCell ⟨b7, 6, none⟩ (.bool A.index))) rfl (by kernel_rfl) (by go_simp) (((((((hHeld.setCell (p := ⟨b7, 0, none⟩) hbkl (.int .i64 A.id)).setCell (p := ⟨b7, 1, none⟩) hbkl (.string ⟨A.name.toArray⟩)).setCell (p := ⟨b7, 2, none⟩) hbkl (.int .i64 A.type)).setCell (p := ⟨b7, 3, none⟩) hbkl (.bool A.many)).setCell (p := ⟨b7, 4, none⟩) hbkl (.int .i64 A.unique)).setCell (p := ⟨b7, 5, none⟩) hbkl (.bool A.part)).setCell (p := ⟨b7, 6, none⟩) hbkl (.bool A.index)) ?_ AllReadyH.nil
      have hHeld2 := (((((((hHeld.setCell (p := ⟨b7, 0, none⟩) hbkl (.int .i64 A.id)).setCell (p := ⟨b7, 1, none⟩) hbkl (.string ⟨A.name.toArray⟩)).setCell (p := ⟨b7, 2, none⟩) hbkl (.int .i64 A.type)).setCell (p := ⟨b7, 3, none⟩) hbkl (.bool A.many)).setCell (p := ⟨b7, 4, none⟩) hbkl (.int .i64 A.unique)).setCell (p := ⟨b7, 5, none⟩) hbkl (.bool A.part)).setCell (p := ⟨b7, 6, none⟩) hbkl (.bool A.index))
      have hbn : Blk (((((((wm2.setCell ⟨b7, 0, none⟩ (.int .i64 A.id)).setCell ⟨b7, 1, none⟩ (.string ⟨A.name.toArray⟩)).setCell ⟨b7, 2, none⟩ (.int .i64 A.type)).setCell ⟨b7, 3, none⟩ (.bool A.many)).setCell ⟨b7, 4, none⟩ (.int .i64 A.unique)).setCell ⟨b7, 5, none⟩ (.bool A.part)).setCell ⟨b7, 6, none⟩ (.bool A.index)) b7 [.int .i64 A.id, .string ⟨A.name.toArray⟩, .int .i64 A.type, .bool A.many, .int .i64 A.unique, .bool A.part, .bool A.index] 28 := (((((((hbk.set 0 (.int .i64 A.id)).set 1 (.string ⟨A.name.toArray⟩)).set 2 (.int .i64 A.type)).set 3 (.bool A.many)).set 4 (.int .i64 A.unique)).set 5 (.bool A.part)).set 6 (.bool A.index))
      clear hHeld hbk zc zl z0 z1 z2 z3 z4 z5 z6 zf0 zf1 zf2 zf3 zf4 zf5 zf6
      have hHeld := hHeld2
      have hbk := hbn
      clear hHeld2 hbn
      generalize (((((((wm2.setCell ⟨b7, 0, none⟩ (.int .i64 A.id)).setCell ⟨b7, 1, none⟩ (.string ⟨A.name.toArray⟩)).setCell ⟨b7, 2, none⟩ (.int .i64 A.type)).setCell ⟨b7, 3, none⟩ (.bool A.many)).setCell ⟨b7, 4, none⟩ (.int .i64 A.unique)).setCell ⟨b7, 5, none⟩ (.bool A.part)).setCell ⟨b7, 6, none⟩ (.bool A.index)) = wm3 at *
      try simp only [ν1, ν2, ν3, ν4, ν5, ν6, ν7, ν8]
      refine wpAnyH_take (i := 12) (v := .bool iq) rfl (by kernel_rfl) (by kernel_rfl) (by kernel_rfl) (fun _ _ _ h => h) (Or.inl ⟨by rfl, ?_⟩) hHeld ?_
      · intro w' hSw; go_simp
      try simp only [ν1, ν2, ν3, ν4, ν5, ν6, ν7, ν8]
      refine wpAnyH_done (by kernel_rfl) ?_ _
      exact ⟨b7, by kernel_rfl, ⟨hHeld, hbk⟩⟩
    refine allVal (v := .pointer (some ⟨w1.drew.heap.size, 0, none⟩)) (w' := w1.drew.alloc (.cells #[.int .i64 0, .string ⟨#[]⟩, .int .i64 0, .bool false, .int .i64 0, .bool false, .bool false] 28)) rfl (by kernel_rfl) (by go_simp) (hHeld.trans ((alloc_below w1.drew (.cells #[.int .i64 0, .string ⟨#[]⟩, .int .i64 0, .bool false, .int .i64 0, .bool false, .bool false] 28)).mono hHeld.size)) ?_ AllReadyH.nil
    have hB := alloc_below w1.drew (.cells #[.int .i64 0, .string ⟨#[]⟩, .int .i64 0, .bool false, .int .i64 0, .bool false, .bool false] 28)
    have hbn := Blk.new w1.drew [.int .i64 0, .string ⟨#[]⟩, .int .i64 0, .bool false, .int .i64 0, .bool false, .bool false] 28 rfl
    have hbkl := hHeld.size
    generalize w1.drew.alloc (.cells #[.int .i64 0, .string ⟨#[]⟩, .int .i64 0, .bool false, .int .i64 0, .bool false, .bool false] 28) = wm4 at *
    obtain ⟨b7, eb⟩ : ∃ b, b = w1.drew.heap.size := ⟨_, rfl⟩
    rw [← eb] at hbn hbkl ⊢
    clear eb
    have hHeld2 := hHeld.trans (hB.mono hHeld.size)
    clear hHeld
    have hHeld := hHeld2
    clear hHeld2 hB
    have hbk := hbn
    clear hbn
    try simp only [ν1, ν2, ν3, ν4, ν5, ν6, ν7, ν8]
    refine wpAnyH_ready (rs := [6]) (by kernel_rfl) (by simp) ?_
    refine allCall (f := 18) (args := #[.slice aa ats.length ca, .string ⟨x.attr.toArray⟩]) rfl (by kernel_rfl) (by kernel_rfl) ?_ AllReadyH.nil
    refine refByName_any (B + 1) hA _ ats x.attr wm4 (Sl.below HP1.out.attrs Attrs.loc hHeld HP1.out.le) (Nat.le_trans HP1.out.le hHeld.size) _ (fun wm5  hB => ?_)
    rw [← HA.out, ← Hiq.out]
    refine ⟨_, rfl, hHeld.trans (hB.mono hHeld.size), ?_⟩
    replace hbk := hbk.below hB hbk.lt
    have hHeld2 := hHeld.trans (hB.mono hHeld.size)
    clear hHeld
    have hHeld := hHeld2
    clear hHeld2 hB
    try simp only [ν1, ν2, ν3, ν4, ν5, ν6, ν7, ν8]
    refine wpAnyH_take (i := 7) (v := .tuple #[.agg #[.int .i64 A.id, .string ⟨A.name.toArray⟩, .int .i64 A.type, .bool A.many, .int .i64 A.unique, .bool A.part, .bool A.index], .bool iq]) rfl (by kernel_rfl) (by kernel_rfl) (by kernel_rfl) (fun _ _ _ h => h) (Or.inl ⟨by rfl, ?_⟩) hHeld ?_
    · intro w' hSw; go_simp
    try simp only [ν1, ν2, ν3, ν4, ν5, ν6, ν7, ν8]
    refine wpAnyH_take (i := 8) (v := .agg #[.int .i64 A.id, .string ⟨A.name.toArray⟩, .int .i64 A.type, .bool A.many, .int .i64 A.unique, .bool A.part, .bool A.index]) rfl (by kernel_rfl) (by kernel_rfl) (by kernel_rfl) (fun _ _ _ h => h) (Or.inl ⟨by rfl, ?_⟩) hHeld ?_
    · intro w' hSw; go_simp
    try simp only [ν1, ν2, ν3, ν4, ν5, ν6, ν7, ν8]
    refine wpAnyH_take (i := 9) (v := .bool iq) rfl (by kernel_rfl) (by kernel_rfl) (by kernel_rfl) (fun _ _ _ h => h) (Or.inl ⟨by rfl, ?_⟩) hHeld ?_
    · intro w' hSw; go_simp
    try simp only [ν1, ν2, ν3, ν4, ν5, ν6, ν7, ν8]
    refine wpAnyH_ready (rs := [11]) (by kernel_rfl) (by simp) ?_
    have zc := hbk.cells
    have z0 := zc 0 _ rfl
    have z1 := zc 1 _ rfl
    have z2 := zc 2 _ rfl
    have z3 := zc 3 _ rfl
    have z4 := zc 4 _ rfl
    have z5 := zc 5 _ rfl
    have z6 := zc 6 _ rfl
    simp only [Nat.zero_add] at z0 z1 z2 z3 z4 z5 z6
    have zl := hbk.lt
    have zf0 := hbk.free 0
    have zf1 := hbk.free 1
    have zf2 := hbk.free 2
    have zf3 := hbk.free 3
    have zf4 := hbk.free 4
    have zf5 := hbk.free 5
    have zf6 := hbk.free 6
    refine allSkip (w' := (((((((wm5.setCell ⟨b7, 0, none⟩ (.int .i64 A.id)).setCell ⟨b7, 1, none⟩ (.string ⟨A.name.toArray⟩)).setCell ⟨b7, 2, none⟩ (.int .i64 A.type)).setCell ⟨b7, 3, none⟩ (.bool A.many)).setCell ⟨b7, 4, none⟩ (.int .i64 A.unique)).setCell ⟨b7, 5, none⟩ (.bool A.part)).setCell ⟨b7, 6, none⟩ (.bool A.index))) rfl (by kernel_rfl) (by go_simp) (((((((hHeld.setCell (p := ⟨b7, 0, none⟩) hbkl (.int .i64 A.id)).setCell (p := ⟨b7, 1, none⟩) hbkl (.string ⟨A.name.toArray⟩)).setCell (p := ⟨b7, 2, none⟩) hbkl (.int .i64 A.type)).setCell (p := ⟨b7, 3, none⟩) hbkl (.bool A.many)).setCell (p := ⟨b7, 4, none⟩) hbkl (.int .i64 A.unique)).setCell (p := ⟨b7, 5, none⟩) hbkl (.bool A.part)).setCell (p := ⟨b7, 6, none⟩) hbkl (.bool A.index)) ?_ AllReadyH.nil
    have hHeld2 := (((((((hHeld.setCell (p := ⟨b7, 0, none⟩) hbkl (.int .i64 A.id)).setCell (p := ⟨b7, 1, none⟩) hbkl (.string ⟨A.name.toArray⟩)).setCell (p := ⟨b7, 2, none⟩) hbkl (.int .i64 A.type)).setCell (p := ⟨b7, 3, none⟩) hbkl (.bool A.many)).setCell (p := ⟨b7, 4, none⟩) hbkl (.int .i64 A.unique)).setCell (p := ⟨b7, 5, none⟩) hbkl (.bool A.part)).setCell (p := ⟨b7, 6, none⟩) hbkl (.bool A.index))
    have hbn : Blk (((((((wm5.setCell ⟨b7, 0, none⟩ (.int .i64 A.id)).setCell ⟨b7, 1, none⟩ (.string ⟨A.name.toArray⟩)).setCell ⟨b7, 2, none⟩ (.int .i64 A.type)).setCell ⟨b7, 3, none⟩ (.bool A.many)).setCell ⟨b7, 4, none⟩ (.int .i64 A.unique)).setCell ⟨b7, 5, none⟩ (.bool A.part)).setCell ⟨b7, 6, none⟩ (.bool A.index)) b7 [.int .i64 A.id, .string ⟨A.name.toArray⟩, .int .i64 A.type, .bool A.many, .int .i64 A.unique, .bool A.part, .bool A.index] 28 := (((((((hbk.set 0 (.int .i64 A.id)).set 1 (.string ⟨A.name.toArray⟩)).set 2 (.int .i64 A.type)).set 3 (.bool A.many)).set 4 (.int .i64 A.unique)).set 5 (.bool A.part)).set 6 (.bool A.index))
    clear hHeld hbk zc zl z0 z1 z2 z3 z4 z5 z6 zf0 zf1 zf2 zf3 zf4 zf5 zf6
    have hHeld := hHeld2
    have hbk := hbn
    clear hHeld2 hbn
    generalize (((((((wm5.setCell ⟨b7, 0, none⟩ (.int .i64 A.id)).setCell ⟨b7, 1, none⟩ (.string ⟨A.name.toArray⟩)).setCell ⟨b7, 2, none⟩ (.int .i64 A.type)).setCell ⟨b7, 3, none⟩ (.bool A.many)).setCell ⟨b7, 4, none⟩ (.int .i64 A.unique)).setCell ⟨b7, 5, none⟩ (.bool A.part)).setCell ⟨b7, 6, none⟩ (.bool A.index)) = wm6 at *
    try simp only [ν1, ν2, ν3, ν4, ν5, ν6, ν7, ν8]
    refine wpAnyH_take (i := 12) (v := .bool iq) rfl (by kernel_rfl) (by kernel_rfl) (by kernel_rfl) (fun _ _ _ h => h) (Or.inl ⟨by rfl, ?_⟩) hHeld ?_
    · intro w' hSw; go_simp
    try simp only [ν1, ν2, ν3, ν4, ν5, ν6, ν7, ν8]
    refine wpAnyH_done (by kernel_rfl) ?_ _
    exact ⟨b7, by kernel_rfl, ⟨hHeld, hbk⟩⟩
  rintro b7 wz ⟨hB, hbk⟩
  simp only [List.foldl_cons, List.foldl_nil]
  try simp only [ν1, ν2, ν3, ν4, ν5, ν6, ν7, ν8]
  have HB2 := Lib.hid (HB.out.trans (hB.mono HB.out.size))
  have HP2 := Lib.hid (HP1.out.below hB)
  have Hbx2 := Lib.hid (Hbx.out.below hB Hbx.out.lt)
  have Hb7 := Lib.hid hbk
  clear hB hbk
  obtain ⟨wv, ewv⟩ : ∃ x, x = wz := ⟨_, rfl⟩
  subst ewv
  have hzv := HB2.out.size
  have HidA : Hid (A.id = idOf ats x.attr) := Lib.hid (by rw [HA.out]; rfl)
  obtain ⟨aid, haid⟩ : ∃ aid, aid = A.id := ⟨_, rfl⟩
  have Haid := Lib.hid haid
  rw [← haid] at Hb7
  have hbase := hzv
  clear haid
  go_wp2_with fail
  go_loopw [9, 10] (fun t9 t10 wr => ∃ k : Nat, k ≤ fs.length ∧ t10 = .int .i64 k ∧ Below wv.heap.size wv wr ∧ OwnV wv.heap.size wr t9 (valuesP (fs.take k) ats e x)) (fun _ t10 _ => fs.length - (intOf t10).toNat)
  case atStart => exact ⟨0, Nat.zero_le _, rfl, Below.refl _ _, Own.nil _ _ _ _ _⟩
  case round =>
    obtain ⟨k, hk, rfl, hBk, ho⟩ := hrel
    obtain ⟨wo, ewo⟩ : ∃ x, x = wr := ⟨_, rfl⟩
    subst ewo
    have HBk := Lib.hid hBk
    have Ho := Lib.hid ho
    have hz := hBk.size
    have kk0 : (0 : Int) ≤ (k : Int) := by omega
    have Hx := Lib.hid (Hbx2.out.below hBk Hbx2.out.lt)
    have HP3 := Lib.hid (HP2.out.below hBk)
    have H7 := Lib.hid (Hb7.out.below hBk Hb7.out.lt)
    obtain ⟨p9, q9, e9⟩ := Own.slice ho
    subst e9
    have y0 := HP3.out.blk.cells 0 _ rfl
    obtain ⟨x0, x1, x2, x3, x4, x5, x6, x7, x8, x9, x10⟩ := item_cells Hx.out.cells
    have g0 := H7.out.cells 0 _ rfl
    simp only [Nat.zero_add] at y0 g0 x1 x2 x3 x4 x5 x6 x7 x8 x9 x10
    clear x4 x5 x6 x7 x8 x9 x10 x0 x1 ho hBk
    by_cases hlt : k < fs.length
    · have kkl : (k : Int) < (fs.length : Int) := by omega
      obtain ⟨ao', cap', e', -, -, -, hc⟩ := HP3.out.facts.form
      injection e' with e1 e2 e3
      subst e1 e3
      obtain ⟨b, off, rfl, hb1, hb2, hcc⟩ := hc k hlt
      obtain ⟨cs, _, hcs, sv, rfl, hsv⟩ := hcc k hlt
      obtain ⟨asv, csv, rfl, -, -, -, -⟩ := hsv.form
      obtain ⟨h0, h1, h2, h3, h4, h5⟩ := hcs.f6
      have Hst := Lib.hid (valuesP_take fs ats e x hlt)
      have hvl := valuesP_len (fs.take k) ats e x
      rw [List.length_take] at hvl
      have Hvl := Lib.hid (show (valuesP (fs.take k) ats e x).length ≤ 2000000000007 by omega)
      clear hcs hc hcc hvl hsv
      generalize hf : fs[k] = f at *
      clear hf
      obtain ⟨U, hU⟩ : ∃ U, U = valuesP (fs.take k) ats e x := ⟨_, rfl⟩
      rw [← hU] at Ho Hst Hvl
      have HU := Lib.hid hU
      obtain ⟨nu, hnu⟩ : ∃ nu, nu = U.length := ⟨_, rfl⟩
      rw [← hU, ← hnu]
      rw [← hnu] at Ho
      have Hnu := Lib.hid hnu
      clear hU hnu
      obtain ⟨U2, hU2⟩ : ∃ U2, U2 = valuesP (fs.take (k + 1)) ats e x := ⟨_, rfl⟩
      rw [← hU2] at Hst
      have HU2 := Lib.hid hU2
      clear hU2
      go_upto_region 7 with fail
      have hBf := alloc_below wo (.cells #[.int .i64 f.e, .int .i64 f.a, .int .i64 f.v.kind, .int .i64 f.v.n, .string ⟨f.v.s.toArray⟩, .slice asv f.sp.length csv] 42)
      have hbf := Blk.new wo [.int .i64 f.e, .int .i64 f.a, .int .i64 f.v.kind, .int .i64 f.v.n, .string ⟨f.v.s.toArray⟩, .slice asv f.sp.length csv] 42 rfl
      generalize wo.alloc (.cells #[.int .i64 f.e, .int .i64 f.a, .int .i64 f.v.kind, .int .i64 f.v.n, .string ⟨f.v.s.toArray⟩, .slice asv f.sp.length csv] 42) = wf at *
      have HBf := Lib.hid (HBk.out.trans (hBf.mono HBk.out.size))
      have Ho1 := Lib.hid (Own.kept Ho.out hBf)
      have Hx1 := Lib.hid (Hx.out.below hBf Hx.out.lt)
      have H71 := Lib.hid (H7.out.below hBf H7.out.lt)
      have hzf := hBf.size
      obtain ⟨bf, ebf⟩ : ∃ b, b = wo.heap.size := ⟨_, rfl⟩
      rw [← ebf] at hbf ⊢
      obtain ⟨h0, h1, h2, h3, h4, -⟩ := hbf.cells.f6
      obtain ⟨x0, x1, x2, x3, x4, x5, x6, x7, x8, x9, x10⟩ := item_cells Hx1.out.cells
      have g0 := H71.out.cells 0 _ rfl
      simp only [Nat.zero_add] at h1 h2 h3 h4 g0 x1 x2 x3 x4 x5 x6 x7 x8 x9 x10
      clear hBf hbf ebf x4 x5 x6 x7 x8 x9 x10 x0 x1
      by_cases ha : f.a = aid
      · have ha2 : (f.a != aid) = false := by simpa using ha
        obtain ⟨bk, hbk⟩ : ∃ bk, bk = x.back := ⟨_, rfl⟩
        rw [← hbk] at x2 Hst
        have Hbk0 := Lib.hid hbk
        clear hbk
        cases bk with
        | false =>
          by_cases he : f.e = e
          · have Hv1 : Hid (U2 = U ++ [f.v]) := Lib.hid (by rw [Hst.out]; unfold valueP; rw [if_neg (by rw [← HidA.out, ← Haid.out]; exact fun h => h ha), if_pos rfl, if_pos he]; rfl)
            have he2 : (f.e == e) = true := by simpa using he
            obtain ⟨v8, w8, hr8, ho8, ha8⟩ := appV1 Ho1.out f.v (n := wf.heap.size) rfl Hvl.out (by omega)
            have Ho8 : Hid (OwnV wv.heap.size w8 v8 U2) := Lib.hid (by rw [Hv1.out]; exact ho8)
            have HB8 := Lib.hid (HBf.out.trans (ha8.below (B := wv.heap.size) (by omega) (fun k hk => (Own.lt Ho1.out k hk).1)))
            have Hbx8 := Lib.hid (ha8.blk Hx1.out (fun e => by have h1 := (Own.lt Ho1.out _ e).1; have h2 := Hbx2.out.lt; omega))
            clear ho8 ha8 he
            go_wp2_with (at_builtin; refine AtApp.of ?_)
            refine AtApp.go hr8 rfl rfl rfl rfl ?_
            obtain ⟨u0, u1, u2, u3, u4, u5, u6, u7, u8, u9, u10⟩ := item_cells Hbx8.out.cells
            simp only [Nat.zero_add] at u2
            rw [← Hbk0.out] at u2
            clear hr8 u0 u1 u3 u4 u5 u6 u7 u8 u9 u10 h0 h1 h2 h3 h4 g0 x2 x3
            go_wp2_with fail
            go_roundw
            case rel => exact ⟨k + 1, by omega, by go_num, HB8.out, by rw [← HU2.out]; exact Ho8.out⟩
            case measure => simp [intOf]; omega
          · have Hv1 : Hid (U2 = U) := Lib.hid (by rw [Hst.out]; unfold valueP; rw [if_neg (by rw [← HidA.out, ← Haid.out]; exact fun h => h ha), if_pos rfl, if_neg he]; simp)
            have he2 : (f.e == e) = false := by simpa using he
            go_wp2_with fail
            go_roundw
            case rel => exact ⟨k + 1, by omega, by go_num, HBf.out, by rw [← HU2.out, Hv1.out]; exact Ho1.out⟩
            case measure => simp [intOf]; omega
        | true =>
          by_cases hk5 : f.v.kind = 5
          · have hk52 : (f.v.kind == 5) = true := by simpa using hk5
            by_cases hn : f.v.n = e
            · have hn2 : (f.v.n == e) = true := by simpa using hn
              have Hv1 : Hid (U2 = U ++ [⟨5, f.e, []⟩]) := Lib.hid (by rw [Hst.out]; unfold valueP; rw [if_neg (by rw [← HidA.out, ← Haid.out]; exact fun h => h ha), if_neg (by decide), if_pos ⟨hk5, hn⟩]; rfl)
              obtain ⟨v8, w8, hr8, ho8, ha8⟩ := appV1 Ho1.out ⟨5, f.e, []⟩ (n := wf.heap.size) rfl Hvl.out (by omega)
              have Ho8 : Hid (OwnV wv.heap.size w8 v8 U2) := Lib.hid (by rw [Hv1.out]; exact ho8)
              have HB8 := Lib.hid (HBf.out.trans (ha8.below (B := wv.heap.size) (by omega) (fun k hk => (Own.lt Ho1.out k hk).1)))
              clear ho8 ha8 hk5 hn
              go_wp2_with (at_builtin; refine AtApp.of ?_)
              refine AtApp.go hr8 rfl rfl rfl rfl ?_
              clear hr8 h0 h1 h2 h3 h4 g0 x2 x3
              go_wp2_with fail
              go_roundw
              case rel => exact ⟨k + 1, by omega, by go_num, HB8.out, by rw [← HU2.out]; exact Ho8.out⟩
              case measure => simp [intOf]; omega
            · have hn2 : (f.v.n == e) = false := by simpa using hn
              have Hv1 : Hid (U2 = U) := Lib.hid (by rw [Hst.out]; unfold valueP; rw [if_neg (by rw [← HidA.out, ← Haid.out]; exact fun h => h ha), if_neg (by decide), if_neg (fun h => hn h.2)]; simp)
              go_wp2_with fail
              go_roundw
              case rel => exact ⟨k + 1, by omega, by go_num, HBf.out, by rw [← HU2.out, Hv1.out]; exact Ho1.out⟩
              case measure => simp [intOf]; omega
          · have hk52 : (f.v.kind == 5) = false := by simpa using hk5
            have Hv1 : Hid (U2 = U) := Lib.hid (by rw [Hst.out]; unfold valueP; rw [if_neg (by rw [← HidA.out, ← Haid.out]; exact fun h => h ha), if_neg (by decide), if_neg (fun h => hk5 h.1)]; simp)
            go_wp2_with fail
            go_roundw
            case rel => exact ⟨k + 1, by omega, by go_num, HBf.out, by rw [← HU2.out, Hv1.out]; exact Ho1.out⟩
            case measure => simp [intOf]; omega
      · have ha2 : (f.a != aid) = true := by simpa using ha
        have Hu2 : Hid (U2 = U) := Lib.hid (by rw [Hst.out]; unfold valueP; rw [if_pos (by rw [← HidA.out, ← Haid.out]; exact ha)]; simp)
        go_wp2_with fail
        go_roundw
        case rel => exact ⟨k + 1, by omega, by go_num, HBf.out, by rw [← HU2.out, Hu2.out]; exact Ho1.out⟩
        case measure => simp [intOf]; omega
    · obtain rfl : k = fs.length := by omega
      have llt : ¬ ((fs.length : Nat) : Int) < (fs.length : Int) := by omega
      have Ho2 : Hid (OwnV wv.heap.size wo (.slice p9 (valuesP fs ats e x).length q9) (valuesP fs ats e x)) := Lib.hid (by have h := Ho.out; rwa [List.take_length] at h)
      rw [List.take_length]
      have HBo := Lib.hid (HB2.out.trans (HBk.out.mono HB2.out.size))
      obtain ⟨U, hU⟩ : ∃ U, U = valuesP fs ats e x := ⟨_, rfl⟩
      rw [← hU] at Ho2 ⊢
      have HU := Lib.hid hU
      have Hsl := Lib.hid ((OwnV.sl Ho2.out).mono (flat_loc _) hbase (Nat.le_refl _))
      have hul := Hsl.out.len
      clear hk hU
      by_cases hl0 : 0 < x.limit
      · by_cases hl1 : x.limit < (U.length : Int)
        · have hcut : cutP x U = U.take x.limit.toNat := by unfold cutP; rw [if_pos hl0]
          obtain ⟨v1, hrun, hs1⟩ := Sl.upTo Hsl.out 106 Try.underlying106 (fun _ => by kernel_rfl) x.limit.toNat (by omega)
          rw [show ((x.limit.toNat : Nat) : Int) = x.limit by omega] at hrun
          have hr := HR.out wo v1 HBo.out (by rw [← HU.out, hcut]; exact hs1)
          clear hcut hs1
          go_wp2_with fail
          first | exact hr | exact fin hr rfl
        · have hcut : cutP x U = U := by unfold cutP; rw [if_pos hl0, List.take_of_length_le (by omega)]
          have hr := HR.out wo _ HBo.out (by rw [← HU.out, hcut]; exact Hsl.out)
          clear hcut
          go_wp2_with fail
          first | exact hr | exact fin hr rfl
      · have hcut : cutP x U = U := by unfold cutP; rw [if_neg hl0]
        have hr := HR.out wo _ HBo.out (by rw [← HU.out, hcut]; exact Hsl.out)
        clear hcut
        go_wp2_with fail
        first | exact hr | exact fin hr rfl
end Go.Proofs.Yticbhfmpnmolcaa
end

/- The document's Ahead. (Printed by pulh.py.) -/
section
set_option linter.unusedVariables false
set_option linter.unusedSimpArgs false
namespace Go.Proofs.Yticbhfmpnmolcaa
open Go.RowKit
set_option linter.unusedVariables false
set_option linter.unusedSimpArgs false
theorem less_cmp : ∀ (a b : List UInt8), Op.bytesLess a b = decide (Lib.compareBytes a b < 0)
  | _, [] => by rename_i a; cases a <;> simp [Op.bytesLess, Lib.compareBytes, Lib.compareBytes]
  | [], _ :: _ => by simp [Op.bytesLess, Lib.compareBytes, Lib.compareBytes]
  | a :: x, b :: y => by
    have ih := less_cmp x y
    simp only [Op.bytesLess, ih, Lib.compareBytes, Lib.compareBytes]
    by_cases h1 : a < b
    · simp [h1]
    · by_cases h2 : b < a
      · have hne : ¬ a = b := fun e => by rw [e] at h2; exact absurd h2 (UInt8.lt_irrefl b)
        simp [h1, h2, hne]
      · have he : a = b := UInt8.le_antisymm (UInt8.not_lt.1 h2) (UInt8.not_lt.1 h1)
        subst he
        simp [UInt8.lt_irrefl]
def aheadK (a b : S × Bool) : Bool := decide (Lib.compareBytes a.1 b.1 < 0) || (a.1 == b.1 && !a.2 && b.2)
theorem aheadK_B {T : Type} (a b : Br T) : aheadB a b = aheadK (keyB a) (keyB b) := rfl
set_option maxRecDepth 100000 in
set_option maxHeartbeats 4000000 in
theorem Ahead_any (x y : S × Bool) (l1 l2 : Option Addr) (n1 c1 n2 c2 : Nat) (w : World) (R : Ending → World → Prop) (hR : ∀ w', Below w.heap.size w w' → R (.returned (.bool (aheadK x y))) w') :
    Calls Try.prog 61 #[.agg #[.string ⟨x.1.toArray⟩, .bool x.2, .slice l1 n1 c1], .agg #[.string ⟨y.1.toArray⟩, .bool y.2, .slice l2 n2 c2]] w R := by
  have HR := Lib.hid hR
  have hB1 := alloc_below w (.cells #[.string ⟨x.1.toArray⟩, .bool x.2, .slice l1 n1 c1] 62)
  have hb1 := Blk.new w [.string ⟨x.1.toArray⟩, .bool x.2, .slice l1 n1 c1] 62 rfl
  have hB2 := alloc_below (w.alloc (.cells #[.string ⟨x.1.toArray⟩, .bool x.2, .slice l1 n1 c1] 62)) (.cells #[.string ⟨y.1.toArray⟩, .bool y.2, .slice l2 n2 c2] 62)
  have hb2 := Blk.new (w.alloc (.cells #[.string ⟨x.1.toArray⟩, .bool x.2, .slice l1 n1 c1] 62)) [.string ⟨y.1.toArray⟩, .bool y.2, .slice l2 n2 c2] 62 rfl
  have hs1 : (w.alloc (.cells #[.string ⟨x.1.toArray⟩, .bool x.2, .slice l1 n1 c1] 62)).heap.size = w.heap.size + 1 := by simp
  rw [hs1] at hb2
  have hb1 := hb1.below hB2 hb1.lt
  have HB := Lib.hid (hB1.trans (hB2.mono hB1.size))
  clear hR hB1 hB2 hs1
  go_enter Try.func61, Try.ntmps61
  go_upto_region 1 with fail
  generalize (w.alloc (.cells #[.string ⟨x.1.toArray⟩, .bool x.2, .slice l1 n1 c1] 62)).alloc (.cells #[.string ⟨y.1.toArray⟩, .bool y.2, .slice l2 n2 c2] 62) = w2 at *
  obtain ⟨y0, y1, y2⟩ := branch_cells hb1.cells
  obtain ⟨z0, z1, z2⟩ := branch_cells hb2.cells
  simp only [Nat.zero_add] at y1 z1
  have hr := HR.out w2 HB.out
  clear hb1 hb2 y2 z2
  obtain ⟨x1, x2⟩ := x
  obtain ⟨q1, q2⟩ := y
  by_cases h0 : Lib.compareBytes x1 q1 < 0
  · rw [show aheadK (x1, x2) (q1, q2) = true by unfold aheadK; simp [h0]] at hr
    have hl : Op.bytesLess x1 q1 = true := by rw [less_cmp]; exact decide_eq_true h0
    go_wp2_with fail
    first | exact hr | exact fin hr rfl
  · have hl : Op.bytesLess x1 q1 = false := by rw [less_cmp]; exact decide_eq_false h0
    by_cases h1 : x1 = q1
    · subst h1
      cases x2 with
      | true =>
        rw [show aheadK (x1, true) (x1, q2) = false by unfold aheadK; simp [h0]] at hr
        go_wp2_with fail
        first | exact hr | exact fin hr rfl
      | false =>
        cases q2 with
        | true =>
          rw [show aheadK (x1, false) (x1, true) = true by unfold aheadK; simp [h0]] at hr
          go_wp2_with fail
          first | exact hr | exact fin hr rfl
        | false =>
          rw [show aheadK (x1, false) (x1, false) = false by unfold aheadK; simp [h0]] at hr
          go_wp2_with fail
          first | exact hr | exact fin hr rfl
    · rw [show aheadK (x1, x2) (q1, q2) = false by unfold aheadK; simp [h0, h1]] at hr
      have h1e : (x1 == q1) = false := by simpa using h1
      go_wp2_with fail
      first | exact hr | exact fin hr rfl
set_option maxRecDepth 100000 in
theorem Or2 (g : Nat) (a b : Int) (w : World) (h : CellsAt w g 0 [.int .i64 a, .int .i64 b]) (R : Ending → World → Prop) (hR : R (.returned (.int .i64 (if a ≠ 0 then a else b))) w) :
    Calls Try.prog 51 #[.slice (some ⟨g, 0, none⟩) 2 2] w R := by
  obtain ⟨h0, h1⟩ := h.c2
  clear h
  go_enter Try.func51, Try.ntmps51
  go_wp2
  go_loop [5, 8] (fun _ t8 => ∃ k : Nat, k ≤ 2 ∧ t8 = .int .i64 k ∧ (0 < k → a = 0) ∧ (1 < k → b = 0)) (fun _ t8 => 2 - (intOf t8).toNat)
  case atStart => exact ⟨0, by omega, rfl, by omega, by omega⟩
  case round =>
    obtain ⟨k, hk, rfl, k1, k2⟩ := hrel
    have H : Hid ((if a ≠ 0 then a else b) = if a ≠ 0 then a else b) := rfl
    by_cases e0 : k = 0
    · subst e0
      clear k1 k2
      go_wp2_with fail
      · exact fin hR (show Value.int _ _ = Value.int _ _ by rw [if_pos (by simpa using (by assumption : (a != 0) = true))])
      · go_round
        case rel =>
          have q : (a != 0) = false := by assumption
          exact ⟨1, by omega, by go_num, fun _ => by simpa using q, by omega⟩
        case measure => simp [intOf]
    by_cases e1 : k = 1
    · subst e1
      have K1 := Lib.hid (k1 (by omega))
      clear k1 k2
      go_wp2_with fail
      · exact fin hR (show Value.int _ _ = Value.int _ _ by rw [if_neg (by simp [K1.out])])
      · go_round
        case rel =>
          have q : (b != 0) = false := by assumption
          exact ⟨2, by omega, by go_num, fun _ => K1.out, fun _ => by simpa using q⟩
        case measure => simp [intOf]
    have e2 : k = 2 := by omega
    subst e2
    have K1 := Lib.hid (k1 (by omega))
    have K2 := Lib.hid (k2 (by omega))
    clear k1 k2
    go_wp2_with fail
    exact fin hR (show Value.int _ _ = Value.int _ _ by rw [if_neg (by simp [K1.out]), K2.out])
set_option maxRecDepth 100000 in
theorem behind_any (b : Bool) (w : World) (R : Ending → World → Prop) (hR : R (.returned (.int .i64 (b2i b))) w) : Calls Try.prog 54 #[.bool b] w R := by
  go_enter Try.func54, Try.ntmps54
  cases b with
  | true => go_wp2_with fail
            first | exact hR | exact fin hR rfl
  | false => go_wp2_with fail
             first | exact hR | exact fin hR rfl
end Go.Proofs.Yticbhfmpnmolcaa
end

/- Items, leaves and branches by their cells, each with the header of what lies behind it; patterns and paths beside a puller; appends. -/
section
set_option linter.unusedVariables false
set_option linter.unusedSimpArgs false
namespace Go.Proofs.Yticbhfmpnmolcaa
open Go.RowKit
set_option linter.unusedVariables false
set_option linter.unusedSimpArgs false

/-- A slice's header. -/
structure HD where
  a : Option Addr
  n : Nat
  c : Nat
instance : Inhabited HD := ⟨⟨none, 0, 0⟩⟩
def HD.v (h : HD) : Value := .slice h.a h.n h.c
theorem Sl.toPairs {α β : Type} [Inhabited β] {E : El α} {enc : β → List Value} {f : β → α} {size lo hi : Nat} {w : World} {v : Value} {xs : List α} (h : Sl E size lo hi w v xs)
    (henc : ∀ cs x, E lo hi w cs x → ∃ p : β, f p = x ∧ cs = enc p) : ∃ ps : List β, ps.map f = xs ∧ Sl (flat enc) size lo hi w v ps ∧ ∀ p ∈ ps, E lo hi w (enc p) (f p) := by
  obtain ⟨ao, cap, hv, hle, hcm, hn, hc⟩ := h.form
  by_cases hx : xs = []
  · subst hx
    exact ⟨[], rfl, ⟨ao, cap, hv, hle, by simpa [maxLen] using hcm, hn, fun hne => absurd rfl hne⟩, fun p hp => absurd hp List.not_mem_nil⟩
  · have h0 : 0 < xs.length := List.length_pos_iff.2 hx
    obtain ⟨b, off, rfl, hb1, hb2, hcc⟩ := hc 0 h0
    have hi' : ∀ i, i < xs.length → ∃ p : β, CellsAt w b (off + i * size) (enc p) ∧ (enc p).length = size ∧ xs[i]? = some (f p) ∧ E lo hi w (enc p) (f p) := by
      intro i hil
      obtain ⟨cs, hl, hcs, he⟩ := hcc i hil
      obtain ⟨p, hp, rfl⟩ := henc cs _ he
      exact ⟨p, hcs, hl, by rw [List.getElem?_eq_getElem hil, hp], by rw [hp]; exact he⟩
    obtain ⟨F, hF⟩ := Deep.choose_lt hi'
    have hlen : ((List.range xs.length).map F).length = xs.length := by simp
    refine ⟨(List.range xs.length).map F, ?_, ⟨some ⟨b, off, none⟩, cap, by rw [hlen]; exact hv, by rw [hlen]; exact hle, by simpa [maxLen] using hcm, hn, fun _ => ⟨b, off, rfl, hb1, hb2, fun k hk => ?_⟩⟩, fun p hp => ?_⟩
    · refine List.ext_getElem (by simp) (fun i h1 h2 => ?_)
      simp only [List.getElem_map, List.getElem_range]
      have := (hF i h2).2.2.1
      rw [List.getElem?_eq_getElem h2] at this
      injection this with this
      exact this.symm
    · rw [hlen] at hk
      exact ⟨_, (hF k hk).2.1, by simpa using (hF k hk).1, by simp [flat]⟩
    · obtain ⟨i, hi, rfl⟩ := List.mem_map.1 hp
      exact (hF i (List.mem_range.1 hi)).2.2.2
theorem Sl.ofPairs {α β : Type} {E : El α} {enc : β → List Value} {f : β → α} {size lo hi : Nat} {w : World} {v : Value} {ps : List β} (h : Sl (flat enc) size lo hi w v ps) (hc : ∀ p ∈ ps, E lo hi w (enc p) (f p)) : Sl E size lo hi w v (ps.map f) := by
  obtain ⟨ao, cap, hv, hle, hcm, hn, hcc⟩ := h
  refine ⟨ao, cap, by rw [List.length_map]; exact hv, by rw [List.length_map]; exact hle, hcm, hn, fun hne => ?_⟩
  obtain ⟨b, off, e, k1, k2, k3⟩ := hcc (fun e => hne (by rw [e]; rfl))
  refine ⟨b, off, e, k1, k2, fun k hk => ?_⟩
  rw [List.length_map] at hk
  obtain ⟨cs, c1, c2, c3⟩ := k3 k hk
  refine ⟨cs, c1, c2, ?_⟩
  rw [List.getElem_map, show cs = enc ps[k] from c3]
  exact hc _ (List.getElem_mem hk)

/-! ### appends -/
theorem app_one {α : Type} {enc : α → List Value} {e t : TypeId} {size lo bytes : Nat} {z : Value} {w : World} {v : Value} {xs : List α} (ht : Try.prog.underlying t = some (.slice e))
    (hI : (Try.prog.info? e).map (fun i => (i.zero, i.size, i.bytes)) = some (some z, size, bytes)) (hzs : z.cells.size = size) (henc : ∀ x, (enc x).length = size) (hone : ∀ x, ∀ u ∈ enc x, u.oneCell' = true)
    (h : Own enc e size lo w v xs) (x : α) {n : Nat} (hn : n = w.heap.size) (hb : (xs.length + 1) * bytes ≤ 140737488355328) (hb1 : 1 ≤ bytes) (hlo : lo ≤ w.heap.size) :
    ∃ v' w', (Builtin.append_ #[t, t] t #[v, .slice (some ⟨n, 0, none⟩) 1 1]).run Try.prog (w.alloc (.cells (enc x).toArray e)) = .ok v' w' ∧ Own enc e size lo w' v' (xs ++ [x]) ∧ Appended w v w' v' := by
  subst hn
  have hB := alloc_below w (.cells (enc x).toArray e)
  obtain ⟨i0, hi, hz0, hz1, hz2⟩ := info_parts hI
  have hc := CellsAt.newAt w (enc x) e rfl
  have hs : Src Try.prog size t (.slice (some ⟨w.heap.size, 0, none⟩) 1 1) [x].length ([x].flatMap enc) (w.alloc (.cells (enc x).toArray e)) :=
    Src.ofSlice _ ht _ _ _ _ (by simp [henc]) (fun j u hu => by rw [Addr.add_lit]; exact hc j u (by simpa using hu)) (fun u hu => by
      rw [List.flatMap_cons, List.flatMap_nil, List.append_nil] at hu
      exact hone _ u hu)
  obtain ⟨v', w', hr, ho, ha⟩ := (Own.kept h hB).app _ _ _ i0 _ bytes ht hi hz0 hz1 hz2 hzs hs (by simpa using hb) hb1 (Nat.le_trans hlo hB.size)
  exact ⟨v', w', hr, ho, (Appended.step v hB).trans ha⟩
theorem app_sl {α : Type} {enc : α → List Value} {e t : TypeId} {size lo bytes : Nat} {z : Value} {w : World} {v y : Value} {xs ys : List α} {l2 h2 : Nat} (ht : Try.prog.underlying t = some (.slice e))
    (hI : (Try.prog.info? e).map (fun i => (i.zero, i.size, i.bytes)) = some (some z, size, bytes)) (hzs : z.cells.size = size) (henc : ∀ x, (enc x).length = size) (hone : ∀ x, ∀ u ∈ enc x, u.oneCell' = true)
    (h : Own enc e size lo w v xs) (hy : Sl (flat enc) size l2 h2 w y ys) (hb : (xs.length + ys.length) * bytes ≤ 140737488355328) (hb1 : 1 ≤ bytes) (hlo : lo ≤ w.heap.size) :
    ∃ v' w', (Builtin.append_ #[t, t] t #[v, y]).run Try.prog w = .ok v' w' ∧ Own enc e size lo w' v' (xs ++ ys) ∧ Appended w v w' v' := by
  obtain ⟨i0, hi, hz0, hz1, hz2⟩ := info_parts hI
  exact h.app _ _ _ i0 _ bytes ht hi hz0 hz1 hz2 hzs (Src.ofSl hy henc hone ht) hb hb1 hlo

/-! ### items -/
abbrev IH := It × (Option Addr × Nat)
def IH.enc (x : IH) : List Value := x.1.encH (.slice x.2.1 x.1.sub.length x.2.2)
abbrev IHs := Sl (flat IH.enc) 11
abbrev OwnI := Own IH.enc 66 11
theorem IH.len (x : IH) : (IH.enc x).length = 11 := rfl
theorem IH.one (x : IH) : ∀ u ∈ IH.enc x, u.oneCell' = true := fun u hu => by
  simp only [IH.enc, It.encH, List.mem_cons, List.not_mem_nil, or_false] at hu
  rcases hu with rfl | rfl | rfl | rfl | rfl | rfl | rfl | rfl | rfl | rfl | rfl <;> rfl
theorem infoI : (Try.prog.info? 66).map (fun i => (i.zero, i.size, i.bytes)) = some (some (.agg #[.bool false, .string ⟨#[]⟩, .bool false, .int .i64 0, .bool false, .int .i64 0, .int .i64 0, .string ⟨#[]⟩, .bool false, .slice none 0 0, .int .i64 0]), 11, 120) := by kernel_rfl
/-- A pattern beside a puller's block: its items may lie anywhere but there, what is within them ahead of it. -/
structure Pat (B D lo hi : Nat) (w : World) (v : Value) (ps : List IH) : Prop where
  sl : IHs lo hi w v ps
  sub : ∀ p ∈ ps, itE D 0 B w (IH.enc p) p.1
  apart : hi ≤ B ∨ B + 1 ≤ lo
  le : hi ≤ w.heap.size
  leB : B ≤ w.heap.size
  all : allL (ps.map (·.1)) ≤ 1000
theorem Pat.turn {B D lo hi : Nat} {w w' : World} {v : Value} {ps : List IH} (h : Pat B D lo hi w v ps) (hO : Only (· = B) w w') : Pat B D lo hi w' v ps :=
  ⟨Sl.agree h.sl (flat_loc _) (hO.agree h.le (fun k e => by have : k = B := e; have := h.apart; omega)), fun p hp => (itE_loc D).agree (h.sub p hp) (hO.agree h.leB (fun k e => .inr (by have : k = B := e; omega))), h.apart, Nat.le_trans h.le hO.size, Nat.le_trans h.leB hO.size, h.all⟩
theorem it_head {D lo hi : Nat} {w : World} {cs : List Value} {x : It} (h : itE D lo hi w cs x) : ∃ p : IH, p.1 = x ∧ cs = IH.enc p := by
  cases D with
  | zero => exact h.elim
  | succ D =>
    obtain ⟨-, sv, rfl, hs⟩ := h
    obtain ⟨p, c, e, -⟩ := hs.form
    exact ⟨(x, p, c), rfl, by rw [e]; rfl⟩
theorem Pat.of {B D : Nat} {w : World} {v : Value} {l : List It} (h : Its D 0 B w v l) (hB : B ≤ w.heap.size) (ha : allL l ≤ 1000) : ∃ ps : List IH, ps.map (·.1) = l ∧ Pat B D 0 B w v ps := by
  obtain ⟨ps, h1, h2, h3⟩ := Sl.toPairs (f := fun p : IH => p.1) (enc := IH.enc) h (fun cs x hx => it_head hx)
  exact ⟨ps, h1, h2, h3, .inl (Nat.le_refl _), hB, hB, by rw [h1]; exact ha⟩
theorem Pat.within {B D lo hi : Nat} {w : World} {v : Value} {ps : List IH} (h : Pat B D lo hi w v ps) {p : IH} (hp : p ∈ ps) : ∃ D' qs, qs.map (·.1) = p.1.sub ∧ Pat B D' 0 B w (.slice p.2.1 p.1.sub.length p.2.2) qs := by
  have h1 := h.sub p hp
  cases D with
  | zero => exact h1.elim
  | succ D =>
    obtain ⟨-, sv, e, hs⟩ := h1
    have e2 : sv = .slice p.2.1 p.1.sub.length p.2.2 := by
      have e3 := congrArg (fun l => l[9]?) e
      simpa [IH.enc, It.encH] using e3.symm
    rw [e2] at hs
    have h2 := allL_mem (List.mem_map.2 ⟨p, hp, rfl⟩ : p.1 ∈ ps.map (·.1))
    rw [It.all_eq] at h2
    have h3 := h.all
    obtain ⟨qs, k1, k2⟩ := Pat.of hs h.leB (by omega)
    exact ⟨D, qs, k1, k2⟩
theorem Pat.lens {B D lo hi : Nat} {w : World} {v : Value} {ps : List IH} (h : Pat B D lo hi w v ps) {p : IH} (hp : p ∈ ps) : p.1.lens := by
  have h1 := h.sub p hp
  cases D with
  | zero => exact h1.elim
  | succ D => exact h1.1
theorem Pat.len {B D lo hi : Nat} {w : World} {v : Value} {ps : List IH} (h : Pat B D lo hi w v ps) : ps.length ≤ 1000 := by
  have h1 := allL_len (ps.map (·.1))
  have h2 := h.all
  rw [List.length_map] at h1
  omega

/-! ### paths -/
theorem inE.one (x : Int) : ∀ u ∈ inE x, u.oneCell' = true := fun u hu => by
  simp only [inE, List.mem_cons, List.not_mem_nil, or_false] at hu
  subst hu; rfl
theorem infoN : (Try.prog.info? 2).map (fun i => (i.zero, i.size, i.bytes)) = some (some (.int .i64 0), 1, 8) := by kernel_rfl
structure Pth (B lo hi : Nat) (w : World) (v : Value) (l : List Int) : Prop where
  sl : Ints lo hi w v l
  apart : B + 1 ≤ lo
  le : hi ≤ w.heap.size
theorem Pth.turn {B lo hi : Nat} {w w' : World} {v : Value} {l : List Int} (h : Pth B lo hi w v l) (hO : Only (· = B) w w') : Pth B lo hi w' v l :=
  ⟨Sl.agree h.sl Ints.loc (hO.agree h.le (fun k e => .inl (by have : k = B := e; have := h.apart; omega))), h.apart, Nat.le_trans h.le hO.size⟩

/-! ### leaves and branches -/
abbrev LH (T : Type) := Lf T × HD
def LH.enc {T : Type} (x : LH T) : List Value := [.int .i64 x.1.1.kind, .int .i64 x.1.1.n, .string ⟨x.1.1.s.toArray⟩, .bool x.1.2.1, .slice x.2.a x.2.n x.2.c]
abbrev OwnL (T : Type) := Own (LH.enc (T := T)) 64 5
theorem LH.len {T : Type} (x : LH T) : (LH.enc x).length = 5 := rfl
theorem LH.one {T : Type} (x : LH T) : ∀ u ∈ LH.enc x, u.oneCell' = true := fun u hu => by
  simp only [LH.enc, List.mem_cons, List.not_mem_nil, or_false] at hu
  rcases hu with rfl | rfl | rfl | rfl | rfl <;> rfl
theorem infoL : (Try.prog.info? 64).map (fun i => (i.zero, i.size, i.bytes)) = some (some (.agg #[.int .i64 0, .int .i64 0, .string ⟨#[]⟩, .bool false, .slice none 0 0]), 5, 64) := by kernel_rfl
abbrev BH (T : Type) := Br T × HD
def BH.enc {T : Type} (x : BH T) : List Value := [.string ⟨x.1.1.toArray⟩, .bool x.1.2.1, .slice x.2.a x.2.n x.2.c]
abbrev OwnBr (T : Type) := Own (BH.enc (T := T)) 62 3
theorem BH.len {T : Type} (x : BH T) : (BH.enc x).length = 3 := rfl
theorem BH.one {T : Type} (x : BH T) : ∀ u ∈ BH.enc x, u.oneCell' = true := fun u hu => by
  simp only [BH.enc, List.mem_cons, List.not_mem_nil, or_false] at hu
  rcases hu with rfl | rfl | rfl <;> rfl
theorem infoBr : (Try.prog.info? 62).map (fun i => (i.zero, i.size, i.bytes)) = some (some (.agg #[.string ⟨#[]⟩, .bool false, .slice none 0 0]), 3, 48) := by kernel_rfl
/-- What lies behind leaves, and behind branches. -/
def LfsOk (d lo hi : Nat) (w : World) (ps : List (LH (Tr d))) : Prop := ∀ p ∈ ps, TrIn d lo hi w p.2.v p.1.2.2
def BrsOk (d lo hi : Nat) (w : World) (ps : List (BH (Tr d))) : Prop := ∀ p ∈ ps, Sl (lfE (TrIn d)) 5 lo hi w p.2.v p.1.2.2
theorem LfsOk.agree {d lo hi lo' hi' : Nat} {w w' : World} {ps : List (LH (Tr d))} (h : LfsOk d lo hi w ps) (ha : Agree lo hi w w') (h1 : lo' ≤ lo) (h2 : hi ≤ hi') : LfsOk d lo' hi' w' ps :=
  fun p hp => (TrIn.loc d).mono ((TrIn.loc d).agree (h p hp) ha) h1 h2
theorem BrsOk.agree {d lo hi lo' hi' : Nat} {w w' : World} {ps : List (BH (Tr d))} (h : BrsOk d lo hi w ps) (ha : Agree lo hi w w') (h1 : lo' ≤ lo) (h2 : hi ≤ hi') : BrsOk d lo' hi' w' ps :=
  fun p hp => ((h p hp).agree (lfE_loc (TrIn.loc d)) ha).mono (lfE_loc (TrIn.loc d)) h1 h2
theorem LfsOk.sl {d lo hi : Nat} {w : World} {v : Value} {ps : List (LH (Tr d))} (h : LfsOk d lo hi w ps) (hs : Sl (flat LH.enc) 5 lo hi w v ps) : Sl (lfE (TrIn d)) 5 lo hi w v (ps.map (·.1)) :=
  Sl.ofPairs hs (fun p hp => ⟨p.2.v, rfl, h p hp⟩)
theorem BrsOk.sl {d lo hi : Nat} {w : World} {v : Value} {ps : List (BH (Tr d))} (h : BrsOk d lo hi w ps) (hs : Sl (flat BH.enc) 3 lo hi w v ps) : TrIn (d + 1) lo hi w v (ps.map (·.1)) :=
  Sl.ofPairs hs (fun p hp => ⟨p.2.v, rfl, h p hp⟩)
theorem OwnL.sl {T : Type} {lo : Nat} {w : World} {v : Value} {xs : List (LH T)} (h : OwnL T lo w v xs) : Sl (flat LH.enc) 5 lo w.heap.size w v xs := Sl.ofOwn LH.len h
theorem OwnBr.sl {T : Type} {lo : Nat} {w : World} {v : Value} {xs : List (BH T)} (h : OwnBr T lo w v xs) : Sl (flat BH.enc) 3 lo w.heap.size w v xs := Sl.ofOwn BH.len h
theorem Own.same {α : Type} {enc : α → List Value} {e : TypeId} {size lo : Nat} {w w' : World} {v : Value} {xs : List α} (h : Own enc e size lo w v xs) (hg : ∀ g, v.ownBlock = some g → w'.heap[g]? = w.heap[g]?) : Own enc e size lo w' v xs := by
  rcases h.2 with h2 | ⟨g, cap, cur, rfl, hb, hg2, hrest⟩
  · exact ⟨h.1, .inl h2⟩
  · exact ⟨h.1, .inr ⟨g, cap, cur, rfl, hb, (hg g rfl).trans hg2, hrest⟩⟩
/-- Own rows stay where another block alone turns. -/
theorem Own.turn {α : Type} {enc : α → List Value} {e : TypeId} {size lo B : Nat} {w w' : World} {v : Value} {xs : List α} (h : Own enc e size lo w v xs) (hO : Only (· = B) w w') (hB : B < lo) : Own enc e size lo w' v xs :=
  Own.same h (fun g hg => by have h1 := Own.lt h g hg; exact hO.block g h1.2 (fun e => by have : g = B := e; omega))

/-- One cell of an own row's element. -/
theorem Own.setPart {α : Type} {enc : α → List Value} {e : TypeId} {size lo g n c j o : Nat} {w : World} {xs : List α} (henc : ∀ x, (enc x).length = size) (h : Own enc e size lo w (.slice (some ⟨g, 0, none⟩) n c) xs) (hj : j < xs.length) (ho : o < size) (y : α) {u : Value} (hy : enc y = (enc xs[j]).set o u) :
    Own enc e size lo (w.setCell ⟨g, j * size + o, none⟩ u) (.slice (some ⟨g, 0, none⟩) n c) (xs.set j y) := by
  have hlen : ∀ (l : List α), (l.flatMap enc).length = l.length * size := by
    intro l; induction l with
    | nil => simp
    | cons x r ih => simp [henc, ih, Nat.add_mul, Nat.add_comm]
  have hset : ∀ (l : List α) (j : Nat) (hj : j < l.length), enc y = (enc l[j]).set o u → (l.set j y).flatMap enc = (l.flatMap enc).set (j * size + o) u := by
    intro l
    induction l with
    | nil => intro j hj; simp at hj
    | cons x r ih =>
      intro j hj hy
      cases j with
      | zero =>
        simp only [List.getElem_cons_zero] at hy
        rw [List.set_cons_zero, List.flatMap_cons, List.flatMap_cons, hy, Nat.zero_mul, Nat.zero_add, List.set_append, if_pos (by rw [henc]; exact ho)]
      | succ j =>
        simp only [List.getElem_cons_succ] at hy
        rw [List.set_cons_succ, List.flatMap_cons, List.flatMap_cons, ih j (by simpa using hj) hy, List.set_append, if_neg (by rw [henc, Nat.add_mul]; omega), henc]
        congr 2
        rw [Nat.add_mul]; omega
  obtain ⟨h1, h2⟩ := h
  rcases h2 with ⟨ee, hn⟩ | ⟨g', cap, cur, ee, hb, hg, hnc, hcm, hcs, htake⟩
  · cases ee
  · injection ee with e1 e2 e3
    injection e1 with e1
    injection e1 with e1
    subst e1 e2 e3
    have hB : Blk w g cur.toList e := by unfold Blk; simpa using hg
    have hB2 := hB.set (j * size + o) u
    refine ⟨by rw [hlen, List.length_set], .inr ⟨g, c, (cur.toList.set (j * size + o) u).toArray, by simp, hb, hB2, by simpa using hnc, hcm, by simpa using hcs, ?_⟩⟩
    rw [List.length_set, List.toList_toArray, List.take_set, htake, hset xs j hj hy]
theorem Only.then {B : Nat} {a b c : World} (h : Only (· = B) a b) (k : Below a.heap.size b c) : Only (· = B) a c :=
  ⟨k.os.trans h.os, k.tape.trans h.tape, k.output.trans h.output, Nat.le_trans h.size k.size, fun i hi hA => (k.block i hi).trans (h.block i hi hA)⟩

/-! ### what lies behind the elements of an own row, each in blocks of its own -/
structure LocF {β : Type} (F : Nat → Nat → World → β → Prop) : Prop where
  agree : ∀ {lo hi : Nat} {w w' : World} {p : β}, F lo hi w p → Agree lo hi w w' → F lo hi w' p
  mono : ∀ {lo hi lo' hi' : Nat} {w : World} {p : β}, F lo hi w p → lo' ≤ lo → hi ≤ hi' → F lo' hi' w p
def KeptAt {β : Type} (F : Nat → Nat → World → β → Prop) (lo : Nat) (w : World) (v : Value) (ps : List β) : Prop :=
  ∀ p ∈ ps, ∃ a b, lo ≤ a ∧ b ≤ w.heap.size ∧ F a b w p ∧ ∀ k, v.ownBlock = some k → k < a ∨ b ≤ k
section
variable {β : Type} {F : Nat → Nat → World → β → Prop} {lo : Nat} {w w' : World} {v v' : Value} {ps : List β}
theorem KeptAt.nil : KeptAt F lo w v [] := fun p h => absurd h List.not_mem_nil
theorem KeptAt.turn {B : Nat} (h : KeptAt F lo w v ps) (hF : LocF F) (hO : Only (· = B) w w') (hB : B < lo) : KeptAt F lo w' v ps := fun p hp => by
  obtain ⟨a, b, h1, h2, h3, h4⟩ := h p hp
  exact ⟨a, b, h1, Nat.le_trans h2 hO.size, hF.agree h3 (hO.agree h2 (fun k e => .inl (by have : k = B := e; omega))), h4⟩
theorem KeptAt.app (h : KeptAt F lo w v ps) (hF : LocF F) (ha : Appended w v w' v') : KeptAt F lo w' v' ps := fun p hp => by
  obtain ⟨a, b, h1, h2, h3, h4⟩ := h p hp
  refine ⟨a, b, h1, Nat.le_trans h2 ha.grown.size, hF.agree h3 (ha.agree h2 h4), fun k hk => ?_⟩
  rcases ha.moved with e | ⟨m, e, hm⟩
  · rw [e] at hk; exact h4 k hk
  · rw [e] at hk; injection hk with hk; omega
theorem KeptAt.snoc (h : KeptAt F lo w v ps) {p : β} {a b : Nat} (h1 : lo ≤ a) (h2 : b ≤ w.heap.size) (h3 : F a b w p) (h4 : ∀ k, v.ownBlock = some k → k < a ∨ b ≤ k) : KeptAt F lo w v (ps ++ [p]) := fun q hq => by
  rcases List.mem_append.1 hq with hq | hq
  · exact h q hq
  · obtain rfl := List.mem_singleton.1 hq
    exact ⟨a, b, h1, h2, h3, h4⟩
theorem KeptAt.all (h : KeptAt F lo w v ps) (hF : LocF F) : ∀ p ∈ ps, F lo w.heap.size w p := fun p hp => by
  obtain ⟨a, b, h1, h2, h3, -⟩ := h p hp
  exact hF.mono h3 h1 h2
end
def LfF (d : Nat) (lo hi : Nat) (w : World) (p : LH (Tr d)) : Prop := TrIn d lo hi w p.2.v p.1.2.2
def BrF (d : Nat) (lo hi : Nat) (w : World) (p : BH (Tr d)) : Prop := Sl (lfE (TrIn d)) 5 lo hi w p.2.v p.1.2.2
theorem LfF.loc (d : Nat) : LocF (LfF d) := ⟨fun h ha => (TrIn.loc d).agree h ha, fun h h1 h2 => (TrIn.loc d).mono h h1 h2⟩
theorem BrF.loc (d : Nat) : LocF (BrF d) := ⟨fun h ha => h.agree (lfE_loc (TrIn.loc d)) ha, fun h h1 h2 => h.mono (lfE_loc (TrIn.loc d)) h1 h2⟩

/-! ### a branch in its place -/
def putH {T : Type} (ps : List (BH T)) (b : BH T) : List (BH T) := ps.takeWhile (fun p => aheadB p.1 b.1) ++ b :: ps.dropWhile (fun p => aheadB p.1 b.1)
theorem putH_map {T : Type} (ps : List (BH T)) (b : BH T) : (putH ps b).map (·.1) = putB (ps.map (·.1)) b.1 := by
  unfold putH putB
  rw [List.takeWhile_map, List.dropWhile_map]
  simp [Function.comp_def]
theorem putH_at {T : Type} {b : BH T} : ∀ (ps : List (BH T)) (a : Nat), a ≤ ps.length → (∀ j (hj : j < ps.length), j < a → aheadB ps[j].1 b.1 = true) → (∀ (h : a < ps.length), aheadB ps[a].1 b.1 = false) → putH ps b = (ps.take a ++ [b]) ++ ps.drop a
  | [], a, h1, _, _ => by
    obtain rfl : a = 0 := by simpa using h1
    rfl
  | y :: r, 0, _, _, h3 => by
    have := h3 (by simp)
    simp only [List.getElem_cons_zero] at this
    unfold putH
    rw [List.takeWhile_cons_of_neg (by simp [this]), List.dropWhile_cons_of_neg (by simp [this])]
    rfl
  | y :: r, a + 1, h1, h2, h3 => by
    have h4 := h2 0 (by simp) (by omega)
    simp only [List.getElem_cons_zero] at h4
    have ih := putH_at (b := b) r a (by simpa using h1) (fun j hj hja => by
      have := h2 (j + 1) (by simp; omega) (by omega)
      simpa using this) (fun h => by
      have := h3 (by simp; omega)
      simpa using this)
    unfold putH at ih ⊢
    rw [List.takeWhile_cons_of_pos (p := fun p : BH T => aheadB p.1 b.1) h4, List.dropWhile_cons_of_pos (p := fun p : BH T => aheadB p.1 b.1) h4, List.cons_append, ih]
    rfl
theorem putH_len {T : Type} (ps : List (BH T)) (b : BH T) : (putH ps b).length = ps.length + 1 := by
  have h := putB_perm (ps.map (·.1)) b.1
  have := h.length_eq
  rw [← putH_map] at this
  simpa using this
theorem putH_mem {T : Type} {ps : List (BH T)} {b p : BH T} (h : p ∈ putH ps b) : p = b ∨ p ∈ ps := by
  unfold putH at h
  rcases List.mem_append.1 h with h | h
  · exact .inr ((List.takeWhile_sublist _).subset h)
  · rcases List.mem_cons.1 h with h | h
    · exact .inl h
    · exact .inr ((List.dropWhile_sublist _).subset h)
end Go.Proofs.Yticbhfmpnmolcaa
end

/- The document's put: a branch in its place. (Printed by pulj.py.) -/
section
set_option linter.unusedVariables false
set_option linter.unusedSimpArgs false
namespace Go.Proofs.Yticbhfmpnmolcaa
open Go.RowKit
set_option linter.unusedVariables false
set_option linter.unusedSimpArgs false
theorem size_Br : ∀ w, (sizeOf (Try.prog.elem 29)).run Try.prog w = .ok 3 w := fun w => by kernel_rfl
theorem Own.lower {α : Type} {enc : α → List Value} {e : TypeId} {size lo lo' : Nat} {w : World} {v : Value} {xs : List α} (h : Own enc e size lo w v xs) (hl : lo' ≤ lo) : Own enc e size lo' w v xs := by
  rcases h.2 with h2 | ⟨g, cap, cur, e1, hb, hrest⟩
  · exact ⟨h.1, .inl h2⟩
  · exact ⟨h.1, .inr ⟨g, cap, cur, e1, Nat.le_trans hl hb, hrest⟩⟩
set_option maxRecDepth 100000 in
set_option maxHeartbeats 8000000 in
theorem refPut_any {T : Type} (lo hi : Nat) (ps : List (BH T)) (b0 : BH T) (v : Value) (w : World) (hv : Sl (flat BH.enc) 3 lo hi w v ps) (hhi : hi ≤ w.heap.size) (hlen : ps.length ≤ 1000000) (R : Ending → World → Prop)
    (hR : ∀ w' v', Below w.heap.size w w' → OwnBr T w.heap.size w' v' (putH ps b0) → R (.returned v') w') :
    Calls Try.prog 33 #[v, .agg #[.string ⟨b0.1.1.toArray⟩, .bool b0.1.2.1, .slice b0.2.a b0.2.n b0.2.c]] w R := by
  have HR := Lib.hid hR
  have Hv := Lib.hid hv
  obtain ⟨ao, cv, rfl, -, -, -, -⟩ := hv.form
  have hl63 := hv.len
  have hBx := alloc_below w (.cells #[.string ⟨b0.1.1.toArray⟩, .bool b0.1.2.1, .slice b0.2.a b0.2.n b0.2.c] 62)
  have hbx := Blk.new w [.string ⟨b0.1.1.toArray⟩, .bool b0.1.2.1, .slice b0.2.a b0.2.n b0.2.c] 62 rfl
  clear hR hv
  go_enter Try.func33, Try.ntmps33
  go_upto_region 1 with fail
  generalize w.alloc (.cells #[.string ⟨b0.1.1.toArray⟩, .bool b0.1.2.1, .slice b0.2.a b0.2.n b0.2.c] 62) = w1 at *
  obtain ⟨g, eg⟩ : ∃ g, g = w.heap.size := ⟨_, rfl⟩
  rw [← eg] at hbx ⊢
  have Hb1 := Lib.hid hbx
  have HBw := Lib.hid hBx
  have hz1 := hBx.size
  obtain ⟨n, hn⟩ : ∃ n, n = ps.length := ⟨_, rfl⟩
  have Hn := Lib.hid hn
  have hn1 : n ≤ 1000000 := by omega
  have Hv1 := Lib.hid (Sl.below Hv.out (flat_loc _) hBx hhi)
  have Hhi : Hid (hi ≤ w1.heap.size) := Lib.hid (by omega)
  have Hg : Hid (g < w1.heap.size) := Lib.hid hbx.lt
  rw [← hn]
  clear hbx hBx eg hn
  go_upto_block 0 with fail
  go_cut [5] (fun t5 wx => ∃ a : Nat, a ≤ n ∧ t5 = .int .i64 a ∧ Hid (putH ps b0 = (ps.take a ++ [b0]) ++ ps.drop a) ∧ Below w1.heap.size w1 wx)
  case first =>
    go_wp2_with fail
    go_loopw [5] (fun t5 wr => ∃ a : Nat, a ≤ n ∧ t5 = .int .i64 a ∧ Hid (∀ j (hj : j < ps.length), j < a → aheadB ps[j].1 b0.1 = true) ∧ Below w1.heap.size w1 wr) (fun t5 _ => n - (intOf t5).toNat)
    case atStart => exact ⟨0, Nat.zero_le _, rfl, Lib.hid (fun j _ h => absurd h (Nat.not_lt_zero _)), Below.refl _ _⟩
    case round =>
      obtain ⟨a, ha, rfl, Hah, hB⟩ := hrel
      obtain ⟨wo, ewo⟩ : ∃ x, x = wr := ⟨_, rfl⟩
      subst ewo
      have HB := Lib.hid hB
      have hz := hB.size
      have kk0 : (0 : Int) ≤ (a : Int) := by omega
      have Hb := Lib.hid (Hb1.out.below hB Hb1.out.lt)
      clear hB
      by_cases hlt : a < n
      · have hlt2 : a < ps.length := by have := Hn.out; omega
        have kkl : (a : Int) < (n : Int) := by omega
        obtain ⟨ao', cap', e', -, -, -, hc⟩ := (Sl.below Hv1.out (flat_loc _) HB.out Hhi.out).form
        injection e' with e1 e2 e3
        subst e1 e3
        obtain ⟨b, off, rfl, hb1, hb2, hcc⟩ := hc a hlt2
        obtain ⟨cs, -, hcs, e4⟩ := hcc a hlt2
        have e5 : cs = BH.enc ps[a] := e4
        rw [e5] at hcs
        clear hcc hc e4 e5 e2
        have Hend : Hid (aheadB ps[a].1 b0.1 = false → putH ps b0 = (ps.take a ++ [b0]) ++ ps.drop a) := Lib.hid (fun h => putH_at ps a (by omega) Hah.out (fun _ => h))
        have Hnext : Hid (aheadB ps[a].1 b0.1 = true → ∀ j (hj : j < ps.length), j < a + 1 → aheadB ps[j].1 b0.1 = true) := Lib.hid (fun h j hj hja => by
          by_cases e : j = a
          · subst e; exact h
          · exact Hah.out j hj (by omega))
        have Hbl : Hid (b < wo.heap.size) := Lib.hid (by have := Hhi.out; omega)
        clear hb1 hb2
        generalize ps[a] = y at *
        unfold BH.enc at hcs
        have Hcs := Lib.hid hcs
        clear hcs
        cases hah : aheadB y.1 b0.1 with
        | true =>
          go_upto_region 2 with fail
          refine wp_region_held_drew (S := fun w' => Below wo.heap.size wo w') (by kernel_rfl) (Below.refl _ _).drew (fun hHeld => ?_)
          refine wpAnyH_take (i := 0) (v := .int .i64 ((a : Int))) rfl (by kernel_rfl) (by kernel_rfl) (by kernel_rfl) (fun _ _ _ h => h) (Or.inl ⟨by rfl, ?_⟩) hHeld ?_
          · intro w' hSw; go_simp
          try simp only [ν1, ν2, ν3, ν4, ν5, ν6, ν7, ν8]
          refine wpAnyH_take (i := 1) (v := .slice (some ⟨b, off, none⟩) n cv) rfl (by kernel_rfl) (by kernel_rfl) (by kernel_rfl) (fun _ _ _ h => h) (Or.inl ⟨by rfl, ?_⟩) hHeld ?_
          · intro w' hSw; go_simp
          try simp only [ν1, ν2, ν3, ν4, ν5, ν6, ν7, ν8]
          refine wpAnyH_take (i := 2) (v := .int .i64 ((n : Int))) rfl (by kernel_rfl) (by kernel_rfl) (by kernel_rfl) (fun _ _ _ h => h) (Or.inl ⟨by rfl, ?_⟩) hHeld ?_
          · intro w' hSw; go_simp
          try simp only [ν1, ν2, ν3, ν4, ν5, ν6, ν7, ν8]
          refine wpAnyH_take (i := 3) (v := .bool true) rfl (by kernel_rfl) (by kernel_rfl) (by kernel_rfl) (fun _ _ _ h => h) (Or.inl ⟨by rfl, ?_⟩) hHeld ?_
          · intro w' hSw; go_simp
          try simp only [ν1, ν2, ν3, ν4, ν5, ν6, ν7, ν8]
          refine wpAnyH_take (i := 4) (v := .bool true) rfl (by kernel_rfl) (by kernel_rfl) (by kernel_rfl) (fun _ _ _ h => h) (Or.inl ⟨by rfl, ?_⟩) hHeld ?_
          · intro w' hSw; go_simp
          try simp only [ν1, ν2, ν3, ν4, ν5, ν6, ν7, ν8]
          refine wpAnyH_take (i := 5) (v := .slice (some ⟨b, off, none⟩) n cv) rfl (by kernel_rfl) (by kernel_rfl) (by kernel_rfl) (fun _ _ _ h => h) (Or.inl ⟨by rfl, ?_⟩) hHeld ?_
          · intro w' hSw; go_simp
          try simp only [ν1, ν2, ν3, ν4, ν5, ν6, ν7, ν8]
          refine wpAnyH_take (i := 6) (v := .int .i64 ((a : Int))) rfl (by kernel_rfl) (by kernel_rfl) (by kernel_rfl) (fun _ _ _ h => h) (Or.inl ⟨by rfl, ?_⟩) hHeld ?_
          · intro w' hSw; go_simp
          try simp only [ν1, ν2, ν3, ν4, ν5, ν6, ν7, ν8]
          refine wpAnyH_take (i := 7) (v := .pointer (some ⟨b, off + a * 3, none⟩)) rfl (by kernel_rfl) (by kernel_rfl) (by kernel_rfl) (fun _ _ _ h => h) (Or.inl ⟨by rfl, ?_⟩) hHeld ?_
          · intro w' hSw; go_simp
          try simp only [ν1, ν2, ν3, ν4, ν5, ν6, ν7, ν8]
          refine wpAnyH_take (i := 8) (v := .agg #[.string ⟨y.1.1.toArray⟩, .bool y.1.2.1, .slice y.2.a y.2.n y.2.c]) rfl (by kernel_rfl) (by kernel_rfl) (by kernel_rfl) (fun _ _ _ h => h) (Or.inl ⟨by rfl, ?_⟩) hHeld ?_
          · intro w' hSw; obtain ⟨k0, k1, k2⟩ := branch_cells (Hcs.out.agree (.below hSw (Nat.le_refl _)) (Nat.zero_le _) Hbl.out); go_simp
          try simp only [ν1, ν2, ν3, ν4, ν5, ν6, ν7, ν8]
          refine wpAnyH_take (i := 9) (v := .agg #[.string ⟨b0.1.1.toArray⟩, .bool b0.1.2.1, .slice b0.2.a b0.2.n b0.2.c]) rfl (by kernel_rfl) (by kernel_rfl) (by kernel_rfl) (fun _ _ _ h => h) (Or.inl ⟨by rfl, ?_⟩) hHeld ?_
          · intro w' hSw; obtain ⟨k0, k1, k2⟩ := branch_cells (Hb.out.below hSw Hb.out.lt).cells; simp only [Nat.zero_add] at k1 k2; go_simp
          try simp only [ν1, ν2, ν3, ν4, ν5, ν6, ν7, ν8]
          refine wpAnyH_ready (rs := [10]) (by kernel_rfl) (by simp) ?_
          refine allCall (f := 61) (args := #[.agg #[.string ⟨y.1.1.toArray⟩, .bool y.1.2.1, .slice y.2.a y.2.n y.2.c], .agg #[.string ⟨b0.1.1.toArray⟩, .bool b0.1.2.1, .slice b0.2.a b0.2.n b0.2.c]]) rfl (by kernel_rfl) (by kernel_rfl) ?_ AllReadyH.nil
          refine Ahead_any (keyB y.1) (keyB b0.1) y.2.a b0.2.a y.2.n y.2.c b0.2.n b0.2.c wo.drew _ (fun w2 hB2 => ?_)
          rw [← aheadK_B, hah]
          refine ⟨_, rfl, hHeld.trans (hB2.mono hHeld.size), ?_⟩
          have hHeld2 := hHeld.trans (hB2.mono hHeld.size)
          clear hHeld
          have hHeld := hHeld2
          clear hHeld2 hB2
          try simp only [ν1, ν2, ν3, ν4, ν5, ν6, ν7, ν8]
          refine wpAnyH_take (i := 11) (v := .bool true) rfl (by kernel_rfl) (by kernel_rfl) (by kernel_rfl) (fun _ _ _ h => h) (Or.inl ⟨by rfl, ?_⟩) hHeld ?_
          · intro w' hSw; go_simp
          try simp only [ν1, ν2, ν3, ν4, ν5, ν6, ν7, ν8]
          refine wpAnyH_done (by kernel_rfl) ?_ _
          have hB3 := hHeld
          clear hHeld
          have Hnx := Lib.hid (Hnext.out hah)
          have HB3 := Lib.hid (HB.out.trans (hB3.mono hz))
          clear hah hB3
          go_wp2_with fail
          go_roundw
          case rel => exact ⟨a + 1, by omega, by go_num, Hnx, HB3.out⟩
          case measure => simp [intOf]; omega
        | false =>
          go_upto_region 2 with fail
          refine wp_region_held_drew (S := fun w' => Below wo.heap.size wo w') (by kernel_rfl) (Below.refl _ _).drew (fun hHeld => ?_)
          refine wpAnyH_take (i := 0) (v := .int .i64 ((a : Int))) rfl (by kernel_rfl) (by kernel_rfl) (by kernel_rfl) (fun _ _ _ h => h) (Or.inl ⟨by rfl, ?_⟩) hHeld ?_
          · intro w' hSw; go_simp
          try simp only [ν1, ν2, ν3, ν4, ν5, ν6, ν7, ν8]
          refine wpAnyH_take (i := 1) (v := .slice (some ⟨b, off, none⟩) n cv) rfl (by kernel_rfl) (by kernel_rfl) (by kernel_rfl) (fun _ _ _ h => h) (Or.inl ⟨by rfl, ?_⟩) hHeld ?_
          · intro w' hSw; go_simp
          try simp only [ν1, ν2, ν3, ν4, ν5, ν6, ν7, ν8]
          refine wpAnyH_take (i := 2) (v := .int .i64 ((n : Int))) rfl (by kernel_rfl) (by kernel_rfl) (by kernel_rfl) (fun _ _ _ h => h) (Or.inl ⟨by rfl, ?_⟩) hHeld ?_
          · intro w' hSw; go_simp
          try simp only [ν1, ν2, ν3, ν4, ν5, ν6, ν7, ν8]
          refine wpAnyH_take (i := 3) (v := .bool true) rfl (by kernel_rfl) (by kernel_rfl) (by kernel_rfl) (fun _ _ _ h => h) (Or.inl ⟨by rfl, ?_⟩) hHeld ?_
          · intro w' hSw; go_simp
          try simp only [ν1, ν2, ν3, ν4, ν5, ν6, ν7, ν8]
          refine wpAnyH_take (i := 4) (v := .bool true) rfl (by kernel_rfl) (by kernel_rfl) (by kernel_rfl) (fun _ _ _ h => h) (Or.inl ⟨by rfl, ?_⟩) hHeld ?_
          · intro w' hSw; go_simp
          try simp only [ν1, ν2, ν3, ν4, ν5, ν6, ν7, ν8]
          refine wpAnyH_take (i := 5) (v := .slice (some ⟨b, off, none⟩) n cv) rfl (by kernel_rfl) (by kernel_rfl) (by kernel_rfl) (fun _ _ _ h => h) (Or.inl ⟨by rfl, ?_⟩) hHeld ?_
          · intro w' hSw; go_simp
          try simp only [ν1, ν2, ν3, ν4, ν5, ν6, ν7, ν8]
          refine wpAnyH_take (i := 6) (v := .int .i64 ((a : Int))) rfl (by kernel_rfl) (by kernel_rfl) (by kernel_rfl) (fun _ _ _ h => h) (Or.inl ⟨by rfl, ?_⟩) hHeld ?_
          · intro w' hSw; go_simp
          try simp only [ν1, ν2, ν3, ν4, ν5, ν6, ν7, ν8]
          refine wpAnyH_take (i := 7) (v := .pointer (some ⟨b, off + a * 3, none⟩)) rfl (by kernel_rfl) (by kernel_rfl) (by kernel_rfl) (fun _ _ _ h => h) (Or.inl ⟨by rfl, ?_⟩) hHeld ?_
          · intro w' hSw; go_simp
          try simp only [ν1, ν2, ν3, ν4, ν5, ν6, ν7, ν8]
          refine wpAnyH_take (i := 8) (v := .agg #[.string ⟨y.1.1.toArray⟩, .bool y.1.2.1, .slice y.2.a y.2.n y.2.c]) rfl (by kernel_rfl) (by kernel_rfl) (by kernel_rfl) (fun _ _ _ h => h) (Or.inl ⟨by rfl, ?_⟩) hHeld ?_
          · intro w' hSw; obtain ⟨k0, k1, k2⟩ := branch_cells (Hcs.out.agree (.below hSw (Nat.le_refl _)) (Nat.zero_le _) Hbl.out); go_simp
          try simp only [ν1, ν2, ν3, ν4, ν5, ν6, ν7, ν8]
          refine wpAnyH_take (i := 9) (v := .agg #[.string ⟨b0.1.1.toArray⟩, .bool b0.1.2.1, .slice b0.2.a b0.2.n b0.2.c]) rfl (by kernel_rfl) (by kernel_rfl) (by kernel_rfl) (fun _ _ _ h => h) (Or.inl ⟨by rfl, ?_⟩) hHeld ?_
          · intro w' hSw; obtain ⟨k0, k1, k2⟩ := branch_cells (Hb.out.below hSw Hb.out.lt).cells; simp only [Nat.zero_add] at k1 k2; go_simp
          try simp only [ν1, ν2, ν3, ν4, ν5, ν6, ν7, ν8]
          refine wpAnyH_ready (rs := [10]) (by kernel_rfl) (by simp) ?_
          refine allCall (f := 61) (args := #[.agg #[.string ⟨y.1.1.toArray⟩, .bool y.1.2.1, .slice y.2.a y.2.n y.2.c], .agg #[.string ⟨b0.1.1.toArray⟩, .bool b0.1.2.1, .slice b0.2.a b0.2.n b0.2.c]]) rfl (by kernel_rfl) (by kernel_rfl) ?_ AllReadyH.nil
          refine Ahead_any (keyB y.1) (keyB b0.1) y.2.a b0.2.a y.2.n y.2.c b0.2.n b0.2.c wo.drew _ (fun w2 hB2 => ?_)
          rw [← aheadK_B, hah]
          refine ⟨_, rfl, hHeld.trans (hB2.mono hHeld.size), ?_⟩
          have hHeld2 := hHeld.trans (hB2.mono hHeld.size)
          clear hHeld
          have hHeld := hHeld2
          clear hHeld2 hB2
          try simp only [ν1, ν2, ν3, ν4, ν5, ν6, ν7, ν8]
          refine wpAnyH_take (i := 11) (v := .bool false) rfl (by kernel_rfl) (by kernel_rfl) (by kernel_rfl) (fun _ _ _ h => h) (Or.inl ⟨by rfl, ?_⟩) hHeld ?_
          · intro w' hSw; go_simp
          try simp only [ν1, ν2, ν3, ν4, ν5, ν6, ν7, ν8]
          refine wpAnyH_done (by kernel_rfl) ?_ _
          have hB3 := hHeld
          clear hHeld
          have Hpe := Lib.hid (Hend.out hah)
          have HB3 := Lib.hid (HB.out.trans (hB3.mono hz))
          clear hah hB3
          go_wp2_with fail
          go_meet
          exact ⟨a, ha, rfl, Hpe, HB3.out⟩
      · have kkl : ¬ (a : Int) < (n : Int) := by omega
        have Hpe : Hid (putH ps b0 = (ps.take a ++ [b0]) ++ ps.drop a) := Lib.hid (putH_at ps a (by have := Hn.out; omega) Hah.out (fun h => absurd h (by have := Hn.out; omega)))
        go_upto_region 2 with fail
        refine wp_region_held_drew (S := fun w' => Below wo.heap.size wo w') (by kernel_rfl) (Below.refl _ _).drew (fun hHeld => ?_)
        refine wpAnyH_take (i := 0) (v := .int .i64 ((a : Int))) rfl (by kernel_rfl) (by kernel_rfl) (by kernel_rfl) (fun _ _ _ h => h) (Or.inl ⟨by rfl, ?_⟩) hHeld ?_
        · intro w' hSw; go_simp
        try simp only [ν1, ν2, ν3, ν4, ν5, ν6, ν7, ν8]
        refine wpAnyH_take (i := 1) (v := .slice ao n cv) rfl (by kernel_rfl) (by kernel_rfl) (by kernel_rfl) (fun _ _ _ h => h) (Or.inl ⟨by rfl, ?_⟩) hHeld ?_
        · intro w' hSw; go_simp
        try simp only [ν1, ν2, ν3, ν4, ν5, ν6, ν7, ν8]
        refine wpAnyH_take (i := 2) (v := .int .i64 ((n : Int))) rfl (by kernel_rfl) (by kernel_rfl) (by kernel_rfl) (fun _ _ _ h => h) (Or.inl ⟨by rfl, ?_⟩) hHeld ?_
        · intro w' hSw; go_simp
        try simp only [ν1, ν2, ν3, ν4, ν5, ν6, ν7, ν8]
        refine wpAnyH_take (i := 3) (v := .bool false) rfl (by kernel_rfl) (by kernel_rfl) (by kernel_rfl) (fun _ _ _ h => h) (Or.inl ⟨by rfl, ?_⟩) hHeld ?_
        · intro w' hSw; go_simp
        try simp only [ν1, ν2, ν3, ν4, ν5, ν6, ν7, ν8]
        refine wpAnyH_take (i := 4) (v := .bool false) rfl (by kernel_rfl) (by kernel_rfl) (by kernel_rfl) (fun _ _ _ h => h) (Or.inl ⟨by rfl, ?_⟩) hHeld ?_
        · intro w' hSw; go_simp
        try simp only [ν1, ν2, ν3, ν4, ν5, ν6, ν7, ν8]
        refine wpAnyH_take (i := 5) (v := undef) rfl (by kernel_rfl) (by kernel_rfl) (by kernel_rfl) (fun _ _ _ h => h) (Or.inr ⟨by kernel_rfl, rfl⟩) hHeld ?_
        try simp only [ν1, ν2, ν3, ν4, ν5, ν6, ν7, ν8]
        refine wpAnyH_take (i := 6) (v := undef) rfl (by kernel_rfl) (by kernel_rfl) (by kernel_rfl) (fun _ _ _ h => h) (Or.inr ⟨by kernel_rfl, rfl⟩) hHeld ?_
        try simp only [ν1, ν2, ν3, ν4, ν5, ν6, ν7, ν8]
        refine wpAnyH_take (i := 7) (v := undef) rfl (by kernel_rfl) (by kernel_rfl) (by kernel_rfl) (fun _ _ _ h => h) (Or.inr ⟨by kernel_rfl, rfl⟩) hHeld ?_
        try simp only [ν1, ν2, ν3, ν4, ν5, ν6, ν7, ν8]
        refine wpAnyH_take (i := 8) (v := undef) rfl (by kernel_rfl) (by kernel_rfl) (by kernel_rfl) (fun _ _ _ h => h) (Or.inr ⟨by kernel_rfl, rfl⟩) hHeld ?_
        try simp only [ν1, ν2, ν3, ν4, ν5, ν6, ν7, ν8]
        refine wpAnyH_take (i := 9) (v := undef) rfl (by kernel_rfl) (by kernel_rfl) (by kernel_rfl) (fun _ _ _ h => h) (Or.inr ⟨by kernel_rfl, rfl⟩) hHeld ?_
        try simp only [ν1, ν2, ν3, ν4, ν5, ν6, ν7, ν8]
        refine wpAnyH_take (i := 10) (v := undef) rfl (by kernel_rfl) (by kernel_rfl) (by kernel_rfl) (fun _ _ _ h => h) (Or.inr ⟨by kernel_rfl, rfl⟩) hHeld ?_
        try simp only [ν1, ν2, ν3, ν4, ν5, ν6, ν7, ν8]
        refine wpAnyH_take (i := 11) (v := .bool false) rfl (by kernel_rfl) (by kernel_rfl) (by kernel_rfl) (fun _ _ _ h => h) (Or.inl ⟨by rfl, ?_⟩) hHeld ?_
        · intro w' hSw; go_simp
        try simp only [ν1, ν2, ν3, ν4, ν5, ν6, ν7, ν8]
        refine wpAnyH_done (by kernel_rfl) ?_ _
        have hB3 := hHeld
        clear hHeld
        have HB3 := Lib.hid (HB.out.trans (hB3.mono hz))
        clear hB3
        go_wp2_with fail
        go_meet
        exact ⟨a, ha, rfl, Hpe, HB3.out⟩
  case rest =>
    obtain ⟨a, ha, rfl, HP, hB⟩ := hcut
    have HB := Lib.hid hB
    have hz := hB.size
    have Hb := Lib.hid (Hb1.out.below hB Hb1.out.lt)
    have ha2 : a ≤ ps.length := by have := Hn.out; omega
    have hps : ps.length ≤ 1000000 := hlen
    have HvC := Lib.hid (Sl.below Hv1.out (flat_loc _) HB.out Hhi.out)
    have Hhc : Hid (hi ≤ wc.heap.size) := Lib.hid (by have := Hhi.out; omega)
    have Hvn : Hid (Sl (flat BH.enc) 3 lo hi wc (.slice ao ps.length cv) ps) := Lib.hid HvC.out
    obtain ⟨s2, hrun2, hs2⟩ := Sl.upTo Hvn.out 29 Try.underlying29 size_Br a ha2
    obtain ⟨v2, w2, hr2, ho2, ha2'⟩ := app_sl (lo := wc.heap.size) Try.underlying29 infoBr rfl BH.len BH.one (Own.nil BH.enc 62 3 wc.heap.size wc) hs2 (by rw [List.length_take, List.length_nil]; omega) (by decide) (Nat.le_refl _)
    rw [List.nil_append] at ho2
    have hB2 : Below wc.heap.size wc w2 := ha2'.below (Nat.le_refl _) (fun k e => by cases e)
    have hz2 := hB2.size
    have Hb2 := Lib.hid (Hb.out.below hB2 Hb.out.lt)
    obtain ⟨v3, w3, hr3, ho3, ha3⟩ := app_one (lo := wc.heap.size) Try.underlying29 infoBr rfl BH.len BH.one ho2 b0 (n := w2.heap.size) rfl (by rw [List.length_take]; omega) (by decide) (by omega)
    have hB3 : Below wc.heap.size wc w3 := hB2.trans (ha3.below hz2 (fun k hk => (Own.lt ho2 k hk).1))
    have hz3 := hB3.size
    obtain ⟨s4, hrun4, hs4⟩ := Sl.fromOn (Sl.below Hvn.out (flat_loc _) hB3 Hhc.out) 29 Try.underlying29 size_Br a ha2
    obtain ⟨v4, w4, hr4, ho4, ha4⟩ := app_sl Try.underlying29 infoBr rfl BH.len BH.one ho3 hs4 (by simp only [List.length_append, List.length_take, List.length_drop, List.length_singleton]; omega) (by decide) (by omega)
    have hr := HR.out w4 v4 (HBw.out.trans ((HB.out.trans ((hB3.trans (ha4.below hz3 (fun k hk => (Own.lt ho3 k hk).1))).mono hz)).mono hz1)) (by rw [HP.out]; exact Own.lower ho4 (by omega))
    have Hr := Lib.hid hr
    obtain ⟨kx0, kx1, kx2⟩ := branch_cells Hb2.out.cells
    simp only [Nat.zero_add] at kx1 kx2
    have ext := Hn.out
    rw [← ext] at hrun2 hrun4
    clear ho2 ha2' hB2 ho3 ha3 hB3 hs2 hs4 ho4 ha4 hr ha2 ext hps
    simp only [BH.enc] at hr3
    go_wp2_with (at_builtin; refine AtApp.of ?_)
    refine AtApp.go hr2 rfl rfl rfl rfl ?_
    go_wp2_with (at_builtin; refine AtApp.of ?_)
    refine AtApp.go hr3 rfl rfl rfl rfl ?_
    go_wp2_with (at_builtin; refine AtApp.of ?_)
    refine AtApp.go hr4 rfl rfl rfl rfl ?_
    go_wp2_with fail
    first | exact Hr.out | exact fin Hr.out rfl
end Go.Proofs.Yticbhfmpnmolcaa
end
