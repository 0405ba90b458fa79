/- Texts that the proofs of PullTells stand on, part 2. -/
import Derived.Lib.QuoteBits
import Derived.Deep.CutBlock
import Derived.Deep.DeepCutAuto
import Derived.Test.YticbhfmpnmolcaaKPullTells1
/- Spans and facts, as plain data, and how they lie in memory. -/
section
set_option linter.unusedVariables false
set_option linter.unusedSimpArgs false
namespace Go.Proofs.Yticbhfmpnmolcaa
open Go.RowKit

structure Sp where
  f : Int
  t : Int
deriving DecidableEq
instance : Inhabited Sp := ⟨⟨0, 0⟩⟩
def Sp.enc (s : Sp) : List Value := [.int .i64 s.f, .int .i64 s.t]
abbrev Spans := Sl (flat Sp.enc) 2
theorem Sp.loc : Loc (flat Sp.enc) := flat_loc _

structure Ft where
  e : Int
  a : Int
  v : V
  sp : List Sp
instance : Inhabited Ft := ⟨⟨0, 0, default, []⟩⟩
/-- A fact's cells. -/
def ftE : El Ft := fun lo hi w cs x => ∃ sv, cs = [.int .i64 x.e, .int .i64 x.a, .int .i64 x.v.kind, .int .i64 x.v.n, .string ⟨x.v.s.toArray⟩, sv] ∧ Spans lo hi w sv x.sp
theorem ftE_loc : Loc ftE where
  agree := fun ⟨sv, e, h⟩ ha => ⟨sv, e, h.agree Sp.loc ha⟩
  mono := fun ⟨sv, e, h⟩ k1 k2 => ⟨sv, e, h.mono Sp.loc k1 k2⟩
abbrev Fts := Sl ftE 6

/-- A span of a list may stand where it stands. -/
def spOk (l : List Sp) (i : Nat) : Bool := decide ((l.getD i default).f < (l.getD i default).t) && (i == 0 || decide ((l.getD (i - 1) default).t < (l.getD i default).f))
def setB (l : List Sp) : Bool := (List.range l.length).all (spOk l)
theorem getD_at {α : Type} (l : List α) (d : α) (i : Nat) (h : i < l.length) : l.getD i d = l[i] := by simp [List.getD, h]
theorem range_all {n : Nat} {p : Nat → Bool} (h : ∀ j, j < n → p j = true) : (List.range n).all p = true := by
  rw [List.all_eq_true]; intro x hx; exact h x (List.mem_range.1 hx)
theorem range_all_not {n j : Nat} {p : Nat → Bool} (hj : j < n) (h : p j = false) : (List.range n).all p = false := by
  rw [List.all_eq_false]; exact ⟨j, List.mem_range.2 hj, by simp [h]⟩
theorem wrap_ok {x : Int} (h1 : 0 ≤ x) (h2 : x ≤ 9223372036854775807) : IntKind.i64.wrap x = x := by
  obtain ⟨n, rfl⟩ := Int.eq_ofNat_of_zero_le h1
  exact Lib.wrap_i64_small n (by omega)
theorem setB_true {l : List Sp} (h : ∀ j, j < l.length → spOk l j = true) : setB l = true := range_all h
theorem setB_false {l : List Sp} {j : Nat} (hj : j < l.length) (h : spOk l j = false) : setB l = false := range_all_not hj h
def mayD (e a : Int) (v : V) : Bool := decide (0 ≤ e) && decide (e < 9007199254740992) && decide (0 ≤ a) && decide (a < 9007199254740992) && mayB v
def Ft.may (x : Ft) : Bool := mayD x.e x.a x.v && !x.sp.isEmpty && setB x.sp
def cmpF (x y : Ft) : Int := or3 (icmp x.e y.e) (icmp x.a y.a) (cmpV x.v y.v)
/-- A fact of a list may stand where it stands. -/
def ftOk (l : List Ft) (i : Nat) : Bool := (l.getD i default).may && (i == 0 || decide (cmpF (l.getD (i - 1) default) (l.getD i default) < 0))
def factsB (l : List Ft) : Bool := (List.range l.length).all (ftOk l)
theorem CellsAt.f6 {w : World} {b o : Nat} {v0 v1 v2 v3 v4 v5 : Value} (h : CellsAt w b o [v0, v1, v2, v3, v4, v5]) :
    w.cell? ⟨b, o, none⟩ = some v0 ∧ w.cell? ⟨b, o + 1, none⟩ = some v1 ∧ w.cell? ⟨b, o + 2, none⟩ = some v2 ∧ w.cell? ⟨b, o + 3, none⟩ = some v3 ∧ w.cell? ⟨b, o + 4, none⟩ = some v4 ∧ w.cell? ⟨b, o + 5, none⟩ = some v5 :=
  ⟨h 0 v0 rfl, h 1 v1 rfl, h 2 v2 rfl, h 3 v3 rfl, h 4 v4 rfl, h 5 v5 rfl⟩
theorem CellsAt.c9 {w : World} {b o : Nat} {v0 v1 v2 v3 v4 v5 v6 v7 v8 : Value} (h : CellsAt w b o [v0, v1, v2, v3, v4, v5, v6, v7, v8]) :
    w.cell? ⟨b, o, none⟩ = some v0 ∧ w.cell? ⟨b, o + 1, none⟩ = some v1 ∧ w.cell? ⟨b, o + 2, none⟩ = some v2 ∧ w.cell? ⟨b, o + 3, none⟩ = some v3 ∧ w.cell? ⟨b, o + 4, none⟩ = some v4 ∧ w.cell? ⟨b, o + 5, none⟩ = some v5 ∧ w.cell? ⟨b, o + 6, none⟩ = some v6 ∧ w.cell? ⟨b, o + 7, none⟩ = some v7 ∧ w.cell? ⟨b, o + 8, none⟩ = some v8 :=
  ⟨h 0 v0 rfl, h 1 v1 rfl, h 2 v2 rfl, h 3 v3 rfl, h 4 v4 rfl, h 5 v5 rfl, h 6 v6 rfl, h 7 v7 rfl, h 8 v8 rfl⟩
theorem alloc_below (w : World) (o : Obj) : Below w.heap.size w (w.alloc o) := (Below.refl _ _).alloc (Nat.le_refl _) _
end Go.Proofs.Yticbhfmpnmolcaa
end

/- Patterns of layer 19: plain definitions, and how items lie in memory. -/
section
set_option linter.unusedVariables false
set_option linter.unusedSimpArgs false
namespace Go.Proofs.Yticbhfmpnmolcaa
open Go.RowKit
set_option linter.unusedVariables false
set_option linter.unusedSimpArgs false
abbrev S := List UInt8

/-- An item of a pattern. -/
structure It where
  wild : Bool
  attr : S
  back : Bool
  limit : Int
  has : Bool
  dflt : V
  nested : Bool
  sub : List It
  rc : Int
instance : Inhabited It := ⟨⟨false, [], false, 0, false, default, false, [], 0⟩⟩
/-- An item's cells, its list's header given. -/
def It.encH (x : It) (sv : Value) : List Value := [.bool x.wild, .string ⟨x.attr.toArray⟩, .bool x.back, .int .i64 x.limit, .bool x.has, .int .i64 x.dflt.kind, .int .i64 x.dflt.n, .string ⟨x.dflt.s.toArray⟩, .bool x.nested, sv, .int .i64 x.rc]
/-- Its texts are none that no memory holds. -/
def It.lens (x : It) : Prop := x.attr.length ≤ 281474976710656 ∧ x.dflt.s.length ≤ 281474976710656
/-- An item in memory, lists within it at most so deep. -/
def itE : Nat → El It
  | 0 => fun _ _ _ _ _ => False
  | d + 1 => fun lo hi w cs x => x.lens ∧ ∃ sv, cs = x.encH sv ∧ Sl (itE d) 11 lo hi w sv x.sub
theorem itE_loc : ∀ d, Loc (itE d)
  | 0 => ⟨fun h _ => h.elim, fun h _ _ => h.elim⟩
  | d + 1 => ⟨fun ⟨hl, sv, e, h⟩ ha => ⟨hl, sv, e, h.agree (itE_loc d) ha⟩, fun ⟨hl, sv, e, h⟩ k1 k2 => ⟨hl, sv, e, h.mono (itE_loc d) k1 k2⟩⟩
abbrev Its (d : Nat) := Sl (itE d) 11

/-! ### how great a pattern is -/
/-- What ref19.weigh answers, so many lists deep at most. -/
def weighF : Nat → List It → Int
  | 0, _ => 1000
  | f + 1, l => l.foldl (fun n x => if n ≤ 200 then n + 1 + (x.attr.length / 50 : Nat) + (x.dflt.s.length / 50 : Nat) + weighF f x.sub else n) 0
mutual
/-- All items, and how deep lists stand within one another. -/
def It.all : It → Nat
  | ⟨_, _, _, _, _, _, _, sub, _⟩ => 1 + allL sub
def allL : List It → Nat
  | [] => 0
  | x :: r => x.all + allL r
end
mutual
def It.deep : It → Nat
  | ⟨_, _, _, _, _, _, _, sub, _⟩ => 1 + deepL sub
def deepL : List It → Nat
  | [] => 0
  | x :: r => max x.deep (deepL r)
end
theorem It.all_eq (x : It) : x.all = 1 + allL x.sub := by cases x; rw [It.all]
theorem It.deep_eq (x : It) : x.deep = 1 + deepL x.sub := by cases x; rw [It.deep]
theorem allL_mem : ∀ {l : List It} {x : It}, x ∈ l → x.all ≤ allL l
  | y :: r, x, h => by
    rw [allL]
    rcases List.mem_cons.1 h with rfl | h
    · omega
    · have := allL_mem h; omega
theorem deepL_mem : ∀ {l : List It} {x : It}, x ∈ l → x.deep ≤ deepL l
  | y :: r, x, h => by
    rw [deepL]
    rcases List.mem_cons.1 h with rfl | h
    · omega
    · have := deepL_mem h; omega
theorem allL_len : ∀ (l : List It), l.length ≤ allL l
  | [] => Nat.zero_le _
  | x :: r => by rw [allL, List.length_cons, It.all_eq]; have := allL_len r; omega
def weighStep (f : Nat) (n : Int) (x : It) : Int := if n ≤ 200 then n + 1 + (x.attr.length / 50 : Nat) + (x.dflt.s.length / 50 : Nat) + weighF f x.sub else n
theorem weighF_eq (f : Nat) (l : List It) : weighF (f + 1) l = l.foldl (weighStep f) 0 := rfl
theorem weighF_nn : ∀ (f : Nat) (l : List It), 0 ≤ weighF f l := by
  intro f
  induction f with
  | zero => intro l; show (0 : Int) ≤ 1000; decide
  | succ f ih =>
    intro l
    rw [weighF_eq]
    have key : ∀ (l : List It) (n : Int), 0 ≤ n → 0 ≤ l.foldl (weighStep f) n := by
      intro l
      induction l with
      | nil => intro n h; exact h
      | cons x r ihl =>
        intro n h
        rw [List.foldl_cons]
        refine ihl _ ?_
        unfold weighStep
        split
        · have := ih x.sub; omega
        · exact h
    exact key l 0 (Int.le_refl _)
theorem weighGo_ge (f : Nat) : ∀ (l : List It) (n : Int), n ≤ l.foldl (weighStep f) n
  | [], n => Int.le_refl _
  | x :: r, n => by
    rw [List.foldl_cons]
    refine Int.le_trans ?_ (weighGo_ge f r _)
    unfold weighStep
    split
    · have := weighF_nn f x.sub; omega
    · exact Int.le_refl _
/-- A pattern that is not great: few items, few lists within one another. -/
theorem weigh_small : ∀ (f : Nat) (l : List It), weighF f l ≤ 200 → (allL l : Int) ≤ weighF f l ∧ deepL l + 1 ≤ f := by
  intro f
  induction f with
  | zero => intro l h; exact absurd h (by show ¬ (1000 : Int) ≤ 200; decide)
  | succ f ih =>
    intro l h
    rw [weighF_eq] at h ⊢
    have key : ∀ (l : List It) (n : Int), 0 ≤ n → l.foldl (weighStep f) n ≤ 200 → n + (allL l : Int) ≤ l.foldl (weighStep f) n ∧ deepL l ≤ f := by
      intro l
      induction l with
      | nil => intro n h0 h; exact ⟨by simp [allL], by simp [deepL]⟩
      | cons x r ihl =>
        intro n h0 h
        rw [List.foldl_cons] at h ⊢
        have h1 : weighStep f n x ≤ 200 := Int.le_trans (weighGo_ge f r _) h
        have hn : n ≤ 200 := by
          refine Classical.byContradiction fun hn => ?_
          unfold weighStep at h1
          rw [if_neg hn] at h1
          exact hn h1
        have hs := weighF_nn f x.sub
        have e : weighStep f n x = n + 1 + (x.attr.length / 50 : Nat) + (x.dflt.s.length / 50 : Nat) + weighF f x.sub := by unfold weighStep; rw [if_pos hn]
        obtain ⟨k1, k2⟩ := ihl _ (by omega) h
        obtain ⟨m1, m2⟩ := ih x.sub (by omega)
        rw [allL, deepL, It.all_eq, It.deep_eq]
        generalize List.foldl (weighStep f) (weighStep f n x) r = T at *
        exact ⟨by omega, by omega⟩
    obtain ⟨k1, k2⟩ := key l 0 (Int.le_refl _) h
    exact ⟨by omega, by omega⟩
end Go.Proofs.Yticbhfmpnmolcaa
end

/- May spans be a set? May a datom be? The code's and the document's answers. (Printed by scha.py.) -/
section
set_option linter.unusedVariables false
set_option linter.unusedSimpArgs false
namespace Go.Proofs.Yticbhfmpnmolcaa
open Go.RowKit
set_option linter.unusedVariables false
set_option linter.unusedSimpArgs false

set_option maxRecDepth 100000 in
set_option maxHeartbeats 4000000 in
theorem set_any (lo hi : Nat) (l : List Sp) (v : Value) (w : World) (hv : Spans lo hi w v l) (hhi : hi ≤ w.heap.size) (R : Ending → World → Prop) (hR : ∀ w', Below w.heap.size w w' → R (.returned (.bool (setB l))) w') :
    Calls Try.prog 89 #[v] w R := by
  obtain ⟨ao, cap, rfl, hcl, hcm, -, hc⟩ := hv.form
  have Hc := Lib.hid hc
  clear hv hc
  go_enter Try.func89, Try.ntmps89
  go_wp2_with fail
  go_loopw [3, 4, 7] (fun _ _ t7 wr => ∃ k : Nat, k ≤ l.length ∧ t7 = .int .i64 k ∧ (∀ j, j < k → spOk l j = true) ∧ Below w.heap.size w wr) (fun _ _ t7 _ => l.length - (intOf t7).toNat)
  case atStart => exact ⟨0, Nat.zero_le _, rfl, fun j h => absurd h (Nat.not_lt_zero _), Below.refl _ _⟩
  case round =>
    obtain ⟨k, hk, rfl, hyes, hB⟩ := hrel
    have Hyes := Lib.hid hyes
    clear hyes
    obtain ⟨wo, ewo⟩ : ∃ x, x = wr := ⟨_, rfl⟩
    subst ewo
    have hz := hB.size
    by_cases hlt : k < l.length
    · obtain ⟨b, off, rfl, hb1, hb2, hcc⟩ := Hc.out k hlt
      obtain ⟨cs, _, hcs, rfl⟩ := hcc k hlt
      obtain ⟨h0, h1⟩ := (hcs.agree (.below hB hhi) hb1 hb2).c2
      have hbw : b < wo.heap.size := by omega
      have Ho : Hid (spOk l k = (decide (l[k].f < l[k].t) && (k == 0 || decide ((l.getD (k - 1) default).t < l[k].f)))) := Lib.hid (by unfold spOk; rw [getD_at l _ k hlt])
      have HB := Lib.hid hB
      have kk0 : (0 : Int) ≤ (k : Int) := by omega
      have kkl : (k : Int) < (l.length : Int) := by omega
      clear hcs hB
      by_cases hk0 : 0 < k
      · obtain ⟨m, hm⟩ : ∃ m, k = m + 1 := ⟨k - 1, by omega⟩
        have hml : m < l.length := by omega
        obtain ⟨cs2, _, hcs2, rfl⟩ := hcc m hml
        obtain ⟨-, g0⟩ := (hcs2.agree (.below HB.out hhi) hb1 hb2).c2
        have wj : IntKind.i64.wrap ((k : Int) - 1) = (m : Int) := by rw [show (k : Int) - 1 = (m : Int) by omega]; exact wrap_ok (by omega) (by omega)
        have Hj : Hid (l.getD (k - 1) default = l[m]) := Lib.hid (by rw [show k - 1 = m by omega, getD_at l _ m hml])
        have j0 : (0 : Int) ≤ (m : Int) := by omega
        have jl : (m : Int) < (l.length : Int) := by omega
        clear hcs2 hcc
        generalize l[m] = p at *
        generalize hs : l[k] = s at *
        clear hs hm
        by_cases hft : s.f < s.t
        · by_cases hpt : p.t < s.f
          ·
            have hal := alloc_below wo (.cells #[.int .i64 s.f, .int .i64 s.t] 104)
            have hbk := Blk.new wo [.int .i64 s.f, .int .i64 s.t] 104 rfl
            go_upto_region 4 with fail
            generalize wo.alloc (.cells #[.int .i64 s.f, .int .i64 s.t] 104) = wa at *
            obtain ⟨y0, y1⟩ := hbk.cells.c2
            have g1 := (World.cell?_of_block (hal.block b hbw)).trans g0
            have Hdr := Lib.hid ((HB.out.trans (hal.mono hz)).drew)
            clear hal hbk h0 h1
            refine wp_region_held_drew (S := fun w' => w' = wa.drew) (by kernel_rfl) rfl (fun hHeld => ?_)
            refine wpAnyH_take (i := 0) (v := .pointer (some ⟨wo.heap.size, 0, none⟩)) rfl (by kernel_rfl) (by kernel_rfl) (by kernel_rfl) (fun _ _ _ h => h) (Or.inl ⟨by rfl, ?_⟩) hHeld ?_
            · intro w' hSw; subst hSw; go_simp <;> omega
            try simp only [ν1, ν2, ν3, ν4, ν5, ν6, ν7, ν8]
            refine wpAnyH_take (i := 1) (v := .int .i64 (s.f)) rfl (by kernel_rfl) (by kernel_rfl) (by kernel_rfl) (fun _ _ _ h => h) (Or.inl ⟨by rfl, ?_⟩) hHeld ?_
            · intro w' hSw; subst hSw; have kx := y0; go_simp
            try simp only [ν1, ν2, ν3, ν4, ν5, ν6, ν7, ν8]
            refine wpAnyH_take (i := 2) (v := .pointer (some ⟨wo.heap.size, 1, none⟩)) rfl (by kernel_rfl) (by kernel_rfl) (by kernel_rfl) (fun _ _ _ h => h) (Or.inl ⟨by rfl, ?_⟩) hHeld ?_
            · intro w' hSw; subst hSw; go_simp <;> omega
            try simp only [ν1, ν2, ν3, ν4, ν5, ν6, ν7, ν8]
            refine wpAnyH_take (i := 3) (v := .int .i64 (s.t)) rfl (by kernel_rfl) (by kernel_rfl) (by kernel_rfl) (fun _ _ _ h => h) (Or.inl ⟨by rfl, ?_⟩) hHeld ?_
            · intro w' hSw; subst hSw; have kx := y1; go_simp
            try simp only [ν1, ν2, ν3, ν4, ν5, ν6, ν7, ν8]
            refine wpAnyH_take (i := 4) (v := .bool false) rfl (by kernel_rfl) (by kernel_rfl) (by kernel_rfl) (fun _ _ _ h => h) (Or.inl ⟨by rfl, ?_⟩) hHeld ?_
            · intro w' hSw; subst hSw; go_simp <;> omega
            try simp only [ν1, ν2, ν3, ν4, ν5, ν6, ν7, ν8]
            refine wpAnyH_take (i := 5) (v := .bool false) rfl (by kernel_rfl) (by kernel_rfl) (by kernel_rfl) (fun _ _ _ h => h) (Or.inl ⟨by rfl, ?_⟩) hHeld ?_
            · intro w' hSw; subst hSw; go_simp <;> omega
            try simp only [ν1, ν2, ν3, ν4, ν5, ν6, ν7, ν8]
            refine wpAnyH_take (i := 6) (v := .int .i64 ((k : Int))) rfl (by kernel_rfl) (by kernel_rfl) (by kernel_rfl) (fun _ _ _ h => h) (Or.inl ⟨by rfl, ?_⟩) hHeld ?_
            · intro w' hSw; subst hSw; go_simp <;> omega
            try simp only [ν1, ν2, ν3, ν4, ν5, ν6, ν7, ν8]
            refine wpAnyH_take (i := 7) (v := .bool true) rfl (by kernel_rfl) (by kernel_rfl) (by kernel_rfl) (fun _ _ _ h => h) (Or.inl ⟨by rfl, ?_⟩) hHeld ?_
            · intro w' hSw; subst hSw; go_simp <;> omega
            try simp only [ν1, ν2, ν3, ν4, ν5, ν6, ν7, ν8]
            refine wpAnyH_take (i := 8) (v := .bool true) rfl (by kernel_rfl) (by kernel_rfl) (by kernel_rfl) (fun _ _ _ h => h) (Or.inl ⟨by rfl, ?_⟩) hHeld ?_
            · intro w' hSw; subst hSw; go_simp <;> omega
            try simp only [ν1, ν2, ν3, ν4, ν5, ν6, ν7, ν8]
            refine wpAnyH_take (i := 9) (v := .pointer (some ⟨wo.heap.size, 0, none⟩)) rfl (by kernel_rfl) (by kernel_rfl) (by kernel_rfl) (fun _ _ _ h => h) (Or.inl ⟨by rfl, ?_⟩) hHeld ?_
            · intro w' hSw; subst hSw; go_simp <;> omega
            try simp only [ν1, ν2, ν3, ν4, ν5, ν6, ν7, ν8]
            refine wpAnyH_take (i := 10) (v := .int .i64 (s.f)) rfl (by kernel_rfl) (by kernel_rfl) (by kernel_rfl) (fun _ _ _ h => h) (Or.inl ⟨by rfl, ?_⟩) hHeld ?_
            · intro w' hSw; subst hSw; have kx := y0; go_simp
            try simp only [ν1, ν2, ν3, ν4, ν5, ν6, ν7, ν8]
            refine wpAnyH_take (i := 11) (v := .slice (some ⟨b, off, none⟩) l.length cap) rfl (by kernel_rfl) (by kernel_rfl) (by kernel_rfl) (fun _ _ _ h => h) (Or.inl ⟨by rfl, ?_⟩) hHeld ?_
            · intro w' hSw; subst hSw; go_simp <;> omega
            try simp only [ν1, ν2, ν3, ν4, ν5, ν6, ν7, ν8]
            refine wpAnyH_take (i := 12) (v := .int .i64 ((k : Int))) rfl (by kernel_rfl) (by kernel_rfl) (by kernel_rfl) (fun _ _ _ h => h) (Or.inl ⟨by rfl, ?_⟩) hHeld ?_
            · intro w' hSw; subst hSw; go_simp <;> omega
            try simp only [ν1, ν2, ν3, ν4, ν5, ν6, ν7, ν8]
            refine wpAnyH_take (i := 13) (v := .int .i64 ((m : Int))) rfl (by kernel_rfl) (by kernel_rfl) (by kernel_rfl) (fun _ _ _ h => h) (Or.inl ⟨by rfl, ?_⟩) hHeld ?_
            · intro w' hSw; subst hSw; go_simp <;> omega
            try simp only [ν1, ν2, ν3, ν4, ν5, ν6, ν7, ν8]
            refine wpAnyH_take (i := 14) (v := .pointer (some ⟨b, off + m * 2, none⟩)) rfl (by kernel_rfl) (by kernel_rfl) (by kernel_rfl) (fun _ _ _ h => h) (Or.inl ⟨by rfl, ?_⟩) hHeld ?_
            · intro w' hSw; subst hSw; go_simp <;> omega
            try simp only [ν1, ν2, ν3, ν4, ν5, ν6, ν7, ν8]
            refine wpAnyH_take (i := 15) (v := .pointer (some ⟨b, off + m * 2 + 1, none⟩)) rfl (by kernel_rfl) (by kernel_rfl) (by kernel_rfl) (fun _ _ _ h => h) (Or.inl ⟨by rfl, ?_⟩) hHeld ?_
            · intro w' hSw; subst hSw; go_simp <;> omega
            try simp only [ν1, ν2, ν3, ν4, ν5, ν6, ν7, ν8]
            refine wpAnyH_take (i := 16) (v := .int .i64 (p.t)) rfl (by kernel_rfl) (by kernel_rfl) (by kernel_rfl) (fun _ _ _ h => h) (Or.inl ⟨by rfl, ?_⟩) hHeld ?_
            · intro w' hSw; subst hSw; have kx := g1; go_simp
            try simp only [ν1, ν2, ν3, ν4, ν5, ν6, ν7, ν8]
            refine wpAnyH_take (i := 17) (v := .bool false) rfl (by kernel_rfl) (by kernel_rfl) (by kernel_rfl) (fun _ _ _ h => h) (Or.inl ⟨by rfl, ?_⟩) hHeld ?_
            · intro w' hSw; subst hSw; go_simp <;> omega
            try simp only [ν1, ν2, ν3, ν4, ν5, ν6, ν7, ν8]
            refine wpAnyH_take (i := 18) (v := .bool false) rfl (by kernel_rfl) (by kernel_rfl) (by kernel_rfl) (fun _ _ _ h => h) (Or.inl ⟨by rfl, ?_⟩) hHeld ?_
            · intro w' hSw; subst hSw; go_simp <;> omega
            try simp only [ν1, ν2, ν3, ν4, ν5, ν6, ν7, ν8]
            refine wpAnyH_take (i := 19) (v := .bool false) rfl (by kernel_rfl) (by kernel_rfl) (by kernel_rfl) (fun _ _ _ h => h) (Or.inl ⟨by rfl, ?_⟩) hHeld ?_
            · intro w' hSw; subst hSw; go_simp <;> omega
            try simp only [ν1, ν2, ν3, ν4, ν5, ν6, ν7, ν8]
            refine wpAnyH_done (by kernel_rfl) ?_ _
            clear hHeld
            go_wp2_with fail
            go_roundw
            case rel => exact ⟨k + 1, by omega, by go_num, fun j hj => by
              by_cases e : j = k
              · subst e; rw [Ho.out, Hj.out]; simp [hft, hpt]
              · exact Hyes.out j (by omega), Hdr.out⟩
            case measure => simp [intOf]; omega
          ·
            have hal := alloc_below wo (.cells #[.int .i64 s.f, .int .i64 s.t] 104)
            have hbk := Blk.new wo [.int .i64 s.f, .int .i64 s.t] 104 rfl
            go_upto_region 4 with fail
            generalize wo.alloc (.cells #[.int .i64 s.f, .int .i64 s.t] 104) = wa at *
            obtain ⟨y0, y1⟩ := hbk.cells.c2
            have g1 := (World.cell?_of_block (hal.block b hbw)).trans g0
            have Hdr := Lib.hid ((HB.out.trans (hal.mono hz)).drew)
            clear hal hbk h0 h1
            refine wp_region_held_drew (S := fun w' => w' = wa.drew) (by kernel_rfl) rfl (fun hHeld => ?_)
            refine wpAnyH_take (i := 0) (v := .pointer (some ⟨wo.heap.size, 0, none⟩)) rfl (by kernel_rfl) (by kernel_rfl) (by kernel_rfl) (fun _ _ _ h => h) (Or.inl ⟨by rfl, ?_⟩) hHeld ?_
            · intro w' hSw; subst hSw; go_simp <;> omega
            try simp only [ν1, ν2, ν3, ν4, ν5, ν6, ν7, ν8]
            refine wpAnyH_take (i := 1) (v := .int .i64 (s.f)) rfl (by kernel_rfl) (by kernel_rfl) (by kernel_rfl) (fun _ _ _ h => h) (Or.inl ⟨by rfl, ?_⟩) hHeld ?_
            · intro w' hSw; subst hSw; have kx := y0; go_simp
            try simp only [ν1, ν2, ν3, ν4, ν5, ν6, ν7, ν8]
            refine wpAnyH_take (i := 2) (v := .pointer (some ⟨wo.heap.size, 1, none⟩)) rfl (by kernel_rfl) (by kernel_rfl) (by kernel_rfl) (fun _ _ _ h => h) (Or.inl ⟨by rfl, ?_⟩) hHeld ?_
            · intro w' hSw; subst hSw; go_simp <;> omega
            try simp only [ν1, ν2, ν3, ν4, ν5, ν6, ν7, ν8]
            refine wpAnyH_take (i := 3) (v := .int .i64 (s.t)) rfl (by kernel_rfl) (by kernel_rfl) (by kernel_rfl) (fun _ _ _ h => h) (Or.inl ⟨by rfl, ?_⟩) hHeld ?_
            · intro w' hSw; subst hSw; have kx := y1; go_simp
            try simp only [ν1, ν2, ν3, ν4, ν5, ν6, ν7, ν8]
            refine wpAnyH_take (i := 4) (v := .bool false) rfl (by kernel_rfl) (by kernel_rfl) (by kernel_rfl) (fun _ _ _ h => h) (Or.inl ⟨by rfl, ?_⟩) hHeld ?_
            · intro w' hSw; subst hSw; go_simp <;> omega
            try simp only [ν1, ν2, ν3, ν4, ν5, ν6, ν7, ν8]
            refine wpAnyH_take (i := 5) (v := .bool false) rfl (by kernel_rfl) (by kernel_rfl) (by kernel_rfl) (fun _ _ _ h => h) (Or.inl ⟨by rfl, ?_⟩) hHeld ?_
            · intro w' hSw; subst hSw; go_simp <;> omega
            try simp only [ν1, ν2, ν3, ν4, ν5, ν6, ν7, ν8]
            refine wpAnyH_take (i := 6) (v := .int .i64 ((k : Int))) rfl (by kernel_rfl) (by kernel_rfl) (by kernel_rfl) (fun _ _ _ h => h) (Or.inl ⟨by rfl, ?_⟩) hHeld ?_
            · intro w' hSw; subst hSw; go_simp <;> omega
            try simp only [ν1, ν2, ν3, ν4, ν5, ν6, ν7, ν8]
            refine wpAnyH_take (i := 7) (v := .bool true) rfl (by kernel_rfl) (by kernel_rfl) (by kernel_rfl) (fun _ _ _ h => h) (Or.inl ⟨by rfl, ?_⟩) hHeld ?_
            · intro w' hSw; subst hSw; go_simp <;> omega
            try simp only [ν1, ν2, ν3, ν4, ν5, ν6, ν7, ν8]
            refine wpAnyH_take (i := 8) (v := .bool true) rfl (by kernel_rfl) (by kernel_rfl) (by kernel_rfl) (fun _ _ _ h => h) (Or.inl ⟨by rfl, ?_⟩) hHeld ?_
            · intro w' hSw; subst hSw; go_simp <;> omega
            try simp only [ν1, ν2, ν3, ν4, ν5, ν6, ν7, ν8]
            refine wpAnyH_take (i := 9) (v := .pointer (some ⟨wo.heap.size, 0, none⟩)) rfl (by kernel_rfl) (by kernel_rfl) (by kernel_rfl) (fun _ _ _ h => h) (Or.inl ⟨by rfl, ?_⟩) hHeld ?_
            · intro w' hSw; subst hSw; go_simp <;> omega
            try simp only [ν1, ν2, ν3, ν4, ν5, ν6, ν7, ν8]
            refine wpAnyH_take (i := 10) (v := .int .i64 (s.f)) rfl (by kernel_rfl) (by kernel_rfl) (by kernel_rfl) (fun _ _ _ h => h) (Or.inl ⟨by rfl, ?_⟩) hHeld ?_
            · intro w' hSw; subst hSw; have kx := y0; go_simp
            try simp only [ν1, ν2, ν3, ν4, ν5, ν6, ν7, ν8]
            refine wpAnyH_take (i := 11) (v := .slice (some ⟨b, off, none⟩) l.length cap) rfl (by kernel_rfl) (by kernel_rfl) (by kernel_rfl) (fun _ _ _ h => h) (Or.inl ⟨by rfl, ?_⟩) hHeld ?_
            · intro w' hSw; subst hSw; go_simp <;> omega
            try simp only [ν1, ν2, ν3, ν4, ν5, ν6, ν7, ν8]
            refine wpAnyH_take (i := 12) (v := .int .i64 ((k : Int))) rfl (by kernel_rfl) (by kernel_rfl) (by kernel_rfl) (fun _ _ _ h => h) (Or.inl ⟨by rfl, ?_⟩) hHeld ?_
            · intro w' hSw; subst hSw; go_simp <;> omega
            try simp only [ν1, ν2, ν3, ν4, ν5, ν6, ν7, ν8]
            refine wpAnyH_take (i := 13) (v := .int .i64 ((m : Int))) rfl (by kernel_rfl) (by kernel_rfl) (by kernel_rfl) (fun _ _ _ h => h) (Or.inl ⟨by rfl, ?_⟩) hHeld ?_
            · intro w' hSw; subst hSw; go_simp <;> omega
            try simp only [ν1, ν2, ν3, ν4, ν5, ν6, ν7, ν8]
            refine wpAnyH_take (i := 14) (v := .pointer (some ⟨b, off + m * 2, none⟩)) rfl (by kernel_rfl) (by kernel_rfl) (by kernel_rfl) (fun _ _ _ h => h) (Or.inl ⟨by rfl, ?_⟩) hHeld ?_
            · intro w' hSw; subst hSw; go_simp <;> omega
            try simp only [ν1, ν2, ν3, ν4, ν5, ν6, ν7, ν8]
            refine wpAnyH_take (i := 15) (v := .pointer (some ⟨b, off + m * 2 + 1, none⟩)) rfl (by kernel_rfl) (by kernel_rfl) (by kernel_rfl) (fun _ _ _ h => h) (Or.inl ⟨by rfl, ?_⟩) hHeld ?_
            · intro w' hSw; subst hSw; go_simp <;> omega
            try simp only [ν1, ν2, ν3, ν4, ν5, ν6, ν7, ν8]
            refine wpAnyH_take (i := 16) (v := .int .i64 (p.t)) rfl (by kernel_rfl) (by kernel_rfl) (by kernel_rfl) (fun _ _ _ h => h) (Or.inl ⟨by rfl, ?_⟩) hHeld ?_
            · intro w' hSw; subst hSw; have kx := g1; go_simp
            try simp only [ν1, ν2, ν3, ν4, ν5, ν6, ν7, ν8]
            refine wpAnyH_take (i := 17) (v := .bool true) rfl (by kernel_rfl) (by kernel_rfl) (by kernel_rfl) (fun _ _ _ h => h) (Or.inl ⟨by rfl, ?_⟩) hHeld ?_
            · intro w' hSw; subst hSw; go_simp <;> omega
            try simp only [ν1, ν2, ν3, ν4, ν5, ν6, ν7, ν8]
            refine wpAnyH_take (i := 18) (v := .bool true) rfl (by kernel_rfl) (by kernel_rfl) (by kernel_rfl) (fun _ _ _ h => h) (Or.inl ⟨by rfl, ?_⟩) hHeld ?_
            · intro w' hSw; subst hSw; go_simp <;> omega
            try simp only [ν1, ν2, ν3, ν4, ν5, ν6, ν7, ν8]
            refine wpAnyH_take (i := 19) (v := .bool true) rfl (by kernel_rfl) (by kernel_rfl) (by kernel_rfl) (fun _ _ _ h => h) (Or.inl ⟨by rfl, ?_⟩) hHeld ?_
            · intro w' hSw; subst hSw; go_simp <;> omega
            try simp only [ν1, ν2, ν3, ν4, ν5, ν6, ν7, ν8]
            refine wpAnyH_done (by kernel_rfl) ?_ _
            clear hHeld
            go_wp2_with fail
            exact fin (hR _ Hdr.out) (show Value.bool _ = Value.bool _ by rw [setB_false hlt (by rw [Ho.out, Hj.out]; simp [hpt]; omega)])
        ·
          have hal := alloc_below wo (.cells #[.int .i64 s.f, .int .i64 s.t] 104)
          have hbk := Blk.new wo [.int .i64 s.f, .int .i64 s.t] 104 rfl
          go_upto_region 4 with fail
          generalize wo.alloc (.cells #[.int .i64 s.f, .int .i64 s.t] 104) = wa at *
          obtain ⟨y0, y1⟩ := hbk.cells.c2
          have g1 := (World.cell?_of_block (hal.block b hbw)).trans g0
          have Hdr := Lib.hid ((HB.out.trans (hal.mono hz)).drew)
          clear hal hbk h0 h1
          refine wp_region_held_drew (S := fun w' => w' = wa.drew) (by kernel_rfl) rfl (fun hHeld => ?_)
          refine wpAnyH_take (i := 0) (v := .pointer (some ⟨wo.heap.size, 0, none⟩)) rfl (by kernel_rfl) (by kernel_rfl) (by kernel_rfl) (fun _ _ _ h => h) (Or.inl ⟨by rfl, ?_⟩) hHeld ?_
          · intro w' hSw; subst hSw; go_simp <;> omega
          try simp only [ν1, ν2, ν3, ν4, ν5, ν6, ν7, ν8]
          refine wpAnyH_take (i := 1) (v := .int .i64 (s.f)) rfl (by kernel_rfl) (by kernel_rfl) (by kernel_rfl) (fun _ _ _ h => h) (Or.inl ⟨by rfl, ?_⟩) hHeld ?_
          · intro w' hSw; subst hSw; have kx := y0; go_simp
          try simp only [ν1, ν2, ν3, ν4, ν5, ν6, ν7, ν8]
          refine wpAnyH_take (i := 2) (v := .pointer (some ⟨wo.heap.size, 1, none⟩)) rfl (by kernel_rfl) (by kernel_rfl) (by kernel_rfl) (fun _ _ _ h => h) (Or.inl ⟨by rfl, ?_⟩) hHeld ?_
          · intro w' hSw; subst hSw; go_simp <;> omega
          try simp only [ν1, ν2, ν3, ν4, ν5, ν6, ν7, ν8]
          refine wpAnyH_take (i := 3) (v := .int .i64 (s.t)) rfl (by kernel_rfl) (by kernel_rfl) (by kernel_rfl) (fun _ _ _ h => h) (Or.inl ⟨by rfl, ?_⟩) hHeld ?_
          · intro w' hSw; subst hSw; have kx := y1; go_simp
          try simp only [ν1, ν2, ν3, ν4, ν5, ν6, ν7, ν8]
          refine wpAnyH_take (i := 4) (v := .bool true) rfl (by kernel_rfl) (by kernel_rfl) (by kernel_rfl) (fun _ _ _ h => h) (Or.inl ⟨by rfl, ?_⟩) hHeld ?_
          · intro w' hSw; subst hSw; go_simp <;> omega
          try simp only [ν1, ν2, ν3, ν4, ν5, ν6, ν7, ν8]
          refine wpAnyH_take (i := 5) (v := .bool true) rfl (by kernel_rfl) (by kernel_rfl) (by kernel_rfl) (fun _ _ _ h => h) (Or.inl ⟨by rfl, ?_⟩) hHeld ?_
          · intro w' hSw; subst hSw; go_simp <;> omega
          try simp only [ν1, ν2, ν3, ν4, ν5, ν6, ν7, ν8]
          refine wpAnyH_take (i := 6) (v := undef) rfl (by kernel_rfl) (by kernel_rfl) (by kernel_rfl) (fun _ _ _ h => h) (Or.inr ⟨by kernel_rfl, rfl⟩) hHeld ?_
          try simp only [ν1, ν2, ν3, ν4, ν5, ν6, ν7, ν8]
          refine wpAnyH_take (i := 7) (v := undef) rfl (by kernel_rfl) (by kernel_rfl) (by kernel_rfl) (fun _ _ _ h => h) (Or.inr ⟨by kernel_rfl, rfl⟩) hHeld ?_
          try simp only [ν1, ν2, ν3, ν4, ν5, ν6, ν7, ν8]
          refine wpAnyH_take (i := 8) (v := undef) rfl (by kernel_rfl) (by kernel_rfl) (by kernel_rfl) (fun _ _ _ h => h) (Or.inr ⟨by kernel_rfl, rfl⟩) hHeld ?_
          try simp only [ν1, ν2, ν3, ν4, ν5, ν6, ν7, ν8]
          refine wpAnyH_take (i := 9) (v := undef) rfl (by kernel_rfl) (by kernel_rfl) (by kernel_rfl) (fun _ _ _ h => h) (Or.inr ⟨by kernel_rfl, rfl⟩) hHeld ?_
          try simp only [ν1, ν2, ν3, ν4, ν5, ν6, ν7, ν8]
          refine wpAnyH_take (i := 10) (v := undef) rfl (by kernel_rfl) (by kernel_rfl) (by kernel_rfl) (fun _ _ _ h => h) (Or.inr ⟨by kernel_rfl, rfl⟩) hHeld ?_
          try simp only [ν1, ν2, ν3, ν4, ν5, ν6, ν7, ν8]
          refine wpAnyH_take (i := 11) (v := undef) rfl (by kernel_rfl) (by kernel_rfl) (by kernel_rfl) (fun _ _ _ h => h) (Or.inr ⟨by kernel_rfl, rfl⟩) hHeld ?_
          try simp only [ν1, ν2, ν3, ν4, ν5, ν6, ν7, ν8]
          refine wpAnyH_take (i := 12) (v := undef) rfl (by kernel_rfl) (by kernel_rfl) (by kernel_rfl) (fun _ _ _ h => h) (Or.inr ⟨by kernel_rfl, rfl⟩) hHeld ?_
          try simp only [ν1, ν2, ν3, ν4, ν5, ν6, ν7, ν8]
          refine wpAnyH_take (i := 13) (v := undef) rfl (by kernel_rfl) (by kernel_rfl) (by kernel_rfl) (fun _ _ _ h => h) (Or.inr ⟨by kernel_rfl, rfl⟩) hHeld ?_
          try simp only [ν1, ν2, ν3, ν4, ν5, ν6, ν7, ν8]
          refine wpAnyH_take (i := 14) (v := undef) rfl (by kernel_rfl) (by kernel_rfl) (by kernel_rfl) (fun _ _ _ h => h) (Or.inr ⟨by kernel_rfl, rfl⟩) hHeld ?_
          try simp only [ν1, ν2, ν3, ν4, ν5, ν6, ν7, ν8]
          refine wpAnyH_take (i := 15) (v := undef) rfl (by kernel_rfl) (by kernel_rfl) (by kernel_rfl) (fun _ _ _ h => h) (Or.inr ⟨by kernel_rfl, rfl⟩) hHeld ?_
          try simp only [ν1, ν2, ν3, ν4, ν5, ν6, ν7, ν8]
          refine wpAnyH_take (i := 16) (v := undef) rfl (by kernel_rfl) (by kernel_rfl) (by kernel_rfl) (fun _ _ _ h => h) (Or.inr ⟨by kernel_rfl, rfl⟩) hHeld ?_
          try simp only [ν1, ν2, ν3, ν4, ν5, ν6, ν7, ν8]
          refine wpAnyH_take (i := 17) (v := undef) rfl (by kernel_rfl) (by kernel_rfl) (by kernel_rfl) (fun _ _ _ h => h) (Or.inr ⟨by kernel_rfl, rfl⟩) hHeld ?_
          try simp only [ν1, ν2, ν3, ν4, ν5, ν6, ν7, ν8]
          refine wpAnyH_take (i := 18) (v := undef) rfl (by kernel_rfl) (by kernel_rfl) (by kernel_rfl) (fun _ _ _ h => h) (Or.inr ⟨by kernel_rfl, rfl⟩) hHeld ?_
          try simp only [ν1, ν2, ν3, ν4, ν5, ν6, ν7, ν8]
          refine wpAnyH_take (i := 19) (v := .bool true) rfl (by kernel_rfl) (by kernel_rfl) (by kernel_rfl) (fun _ _ _ h => h) (Or.inl ⟨by rfl, ?_⟩) hHeld ?_
          · intro w' hSw; subst hSw; go_simp <;> omega
          try simp only [ν1, ν2, ν3, ν4, ν5, ν6, ν7, ν8]
          refine wpAnyH_done (by kernel_rfl) ?_ _
          clear hHeld
          go_wp2_with fail
          exact fin (hR _ Hdr.out) (show Value.bool _ = Value.bool _ by rw [setB_false hlt (by rw [Ho.out]; rw [decide_eq_false (by omega)]; rfl)])
      · clear hcc
        generalize hs : l[k] = s at *
        clear hs
        have k0 : (k : Int) ≤ 0 := by omega
        by_cases hft : s.f < s.t
        ·
          have hal := alloc_below wo (.cells #[.int .i64 s.f, .int .i64 s.t] 104)
          have hbk := Blk.new wo [.int .i64 s.f, .int .i64 s.t] 104 rfl
          go_upto_region 4 with fail
          generalize wo.alloc (.cells #[.int .i64 s.f, .int .i64 s.t] 104) = wa at *
          obtain ⟨y0, y1⟩ := hbk.cells.c2
          skip
          have Hdr := Lib.hid ((HB.out.trans (hal.mono hz)).drew)
          clear hal hbk h0 h1
          refine wp_region_held_drew (S := fun w' => w' = wa.drew) (by kernel_rfl) rfl (fun hHeld => ?_)
          refine wpAnyH_take (i := 0) (v := .pointer (some ⟨wo.heap.size, 0, none⟩)) rfl (by kernel_rfl) (by kernel_rfl) (by kernel_rfl) (fun _ _ _ h => h) (Or.inl ⟨by rfl, ?_⟩) hHeld ?_
          · intro w' hSw; subst hSw; go_simp <;> omega
          try simp only [ν1, ν2, ν3, ν4, ν5, ν6, ν7, ν8]
          refine wpAnyH_take (i := 1) (v := .int .i64 (s.f)) rfl (by kernel_rfl) (by kernel_rfl) (by kernel_rfl) (fun _ _ _ h => h) (Or.inl ⟨by rfl, ?_⟩) hHeld ?_
          · intro w' hSw; subst hSw; have kx := y0; go_simp
          try simp only [ν1, ν2, ν3, ν4, ν5, ν6, ν7, ν8]
          refine wpAnyH_take (i := 2) (v := .pointer (some ⟨wo.heap.size, 1, none⟩)) rfl (by kernel_rfl) (by kernel_rfl) (by kernel_rfl) (fun _ _ _ h => h) (Or.inl ⟨by rfl, ?_⟩) hHeld ?_
          · intro w' hSw; subst hSw; go_simp <;> omega
          try simp only [ν1, ν2, ν3, ν4, ν5, ν6, ν7, ν8]
          refine wpAnyH_take (i := 3) (v := .int .i64 (s.t)) rfl (by kernel_rfl) (by kernel_rfl) (by kernel_rfl) (fun _ _ _ h => h) (Or.inl ⟨by rfl, ?_⟩) hHeld ?_
          · intro w' hSw; subst hSw; have kx := y1; go_simp
          try simp only [ν1, ν2, ν3, ν4, ν5, ν6, ν7, ν8]
          refine wpAnyH_take (i := 4) (v := .bool false) rfl (by kernel_rfl) (by kernel_rfl) (by kernel_rfl) (fun _ _ _ h => h) (Or.inl ⟨by rfl, ?_⟩) hHeld ?_
          · intro w' hSw; subst hSw; go_simp <;> omega
          try simp only [ν1, ν2, ν3, ν4, ν5, ν6, ν7, ν8]
          refine wpAnyH_take (i := 5) (v := .bool false) rfl (by kernel_rfl) (by kernel_rfl) (by kernel_rfl) (fun _ _ _ h => h) (Or.inl ⟨by rfl, ?_⟩) hHeld ?_
          · intro w' hSw; subst hSw; go_simp <;> omega
          try simp only [ν1, ν2, ν3, ν4, ν5, ν6, ν7, ν8]
          refine wpAnyH_take (i := 6) (v := .int .i64 ((k : Int))) rfl (by kernel_rfl) (by kernel_rfl) (by kernel_rfl) (fun _ _ _ h => h) (Or.inl ⟨by rfl, ?_⟩) hHeld ?_
          · intro w' hSw; subst hSw; go_simp <;> omega
          try simp only [ν1, ν2, ν3, ν4, ν5, ν6, ν7, ν8]
          refine wpAnyH_take (i := 7) (v := .bool false) rfl (by kernel_rfl) (by kernel_rfl) (by kernel_rfl) (fun _ _ _ h => h) (Or.inl ⟨by rfl, ?_⟩) hHeld ?_
          · intro w' hSw; subst hSw; go_simp <;> omega
          try simp only [ν1, ν2, ν3, ν4, ν5, ν6, ν7, ν8]
          refine wpAnyH_take (i := 8) (v := .bool false) rfl (by kernel_rfl) (by kernel_rfl) (by kernel_rfl) (fun _ _ _ h => h) (Or.inl ⟨by rfl, ?_⟩) hHeld ?_
          · intro w' hSw; subst hSw; go_simp <;> omega
          try simp only [ν1, ν2, ν3, ν4, ν5, ν6, ν7, ν8]
          refine wpAnyH_take (i := 9) (v := undef) rfl (by kernel_rfl) (by kernel_rfl) (by kernel_rfl) (fun _ _ _ h => h) (Or.inr ⟨by kernel_rfl, rfl⟩) hHeld ?_
          try simp only [ν1, ν2, ν3, ν4, ν5, ν6, ν7, ν8]
          refine wpAnyH_take (i := 10) (v := undef) rfl (by kernel_rfl) (by kernel_rfl) (by kernel_rfl) (fun _ _ _ h => h) (Or.inr ⟨by kernel_rfl, rfl⟩) hHeld ?_
          try simp only [ν1, ν2, ν3, ν4, ν5, ν6, ν7, ν8]
          refine wpAnyH_take (i := 11) (v := undef) rfl (by kernel_rfl) (by kernel_rfl) (by kernel_rfl) (fun _ _ _ h => h) (Or.inr ⟨by kernel_rfl, rfl⟩) hHeld ?_
          try simp only [ν1, ν2, ν3, ν4, ν5, ν6, ν7, ν8]
          refine wpAnyH_take (i := 12) (v := undef) rfl (by kernel_rfl) (by kernel_rfl) (by kernel_rfl) (fun _ _ _ h => h) (Or.inr ⟨by kernel_rfl, rfl⟩) hHeld ?_
          try simp only [ν1, ν2, ν3, ν4, ν5, ν6, ν7, ν8]
          refine wpAnyH_take (i := 13) (v := undef) rfl (by kernel_rfl) (by kernel_rfl) (by kernel_rfl) (fun _ _ _ h => h) (Or.inr ⟨by kernel_rfl, rfl⟩) hHeld ?_
          try simp only [ν1, ν2, ν3, ν4, ν5, ν6, ν7, ν8]
          refine wpAnyH_take (i := 14) (v := undef) rfl (by kernel_rfl) (by kernel_rfl) (by kernel_rfl) (fun _ _ _ h => h) (Or.inr ⟨by kernel_rfl, rfl⟩) hHeld ?_
          try simp only [ν1, ν2, ν3, ν4, ν5, ν6, ν7, ν8]
          refine wpAnyH_take (i := 15) (v := undef) rfl (by kernel_rfl) (by kernel_rfl) (by kernel_rfl) (fun _ _ _ h => h) (Or.inr ⟨by kernel_rfl, rfl⟩) hHeld ?_
          try simp only [ν1, ν2, ν3, ν4, ν5, ν6, ν7, ν8]
          refine wpAnyH_take (i := 16) (v := undef) rfl (by kernel_rfl) (by kernel_rfl) (by kernel_rfl) (fun _ _ _ h => h) (Or.inr ⟨by kernel_rfl, rfl⟩) hHeld ?_
          try simp only [ν1, ν2, ν3, ν4, ν5, ν6, ν7, ν8]
          refine wpAnyH_take (i := 17) (v := undef) rfl (by kernel_rfl) (by kernel_rfl) (by kernel_rfl) (fun _ _ _ h => h) (Or.inr ⟨by kernel_rfl, rfl⟩) hHeld ?_
          try simp only [ν1, ν2, ν3, ν4, ν5, ν6, ν7, ν8]
          refine wpAnyH_take (i := 18) (v := .bool false) rfl (by kernel_rfl) (by kernel_rfl) (by kernel_rfl) (fun _ _ _ h => h) (Or.inl ⟨by rfl, ?_⟩) hHeld ?_
          · intro w' hSw; subst hSw; go_simp <;> omega
          try simp only [ν1, ν2, ν3, ν4, ν5, ν6, ν7, ν8]
          refine wpAnyH_take (i := 19) (v := .bool false) rfl (by kernel_rfl) (by kernel_rfl) (by kernel_rfl) (fun _ _ _ h => h) (Or.inl ⟨by rfl, ?_⟩) hHeld ?_
          · intro w' hSw; subst hSw; go_simp <;> omega
          try simp only [ν1, ν2, ν3, ν4, ν5, ν6, ν7, ν8]
          refine wpAnyH_done (by kernel_rfl) ?_ _
          clear hHeld
          go_wp2_with fail
          go_roundw
          case rel => exact ⟨k + 1, by omega, by go_num, fun j hj => by
            by_cases e : j = k
            · subst e; rw [Ho.out]; simp [hft]; omega
            · exact Hyes.out j (by omega), Hdr.out⟩
          case measure => simp [intOf]; omega
        ·
          have hal := alloc_below wo (.cells #[.int .i64 s.f, .int .i64 s.t] 104)
          have hbk := Blk.new wo [.int .i64 s.f, .int .i64 s.t] 104 rfl
          go_upto_region 4 with fail
          generalize wo.alloc (.cells #[.int .i64 s.f, .int .i64 s.t] 104) = wa at *
          obtain ⟨y0, y1⟩ := hbk.cells.c2
          skip
          have Hdr := Lib.hid ((HB.out.trans (hal.mono hz)).drew)
          clear hal hbk h0 h1
          refine wp_region_held_drew (S := fun w' => w' = wa.drew) (by kernel_rfl) rfl (fun hHeld => ?_)
          refine wpAnyH_take (i := 0) (v := .pointer (some ⟨wo.heap.size, 0, none⟩)) rfl (by kernel_rfl) (by kernel_rfl) (by kernel_rfl) (fun _ _ _ h => h) (Or.inl ⟨by rfl, ?_⟩) hHeld ?_
          · intro w' hSw; subst hSw; go_simp <;> omega
          try simp only [ν1, ν2, ν3, ν4, ν5, ν6, ν7, ν8]
          refine wpAnyH_take (i := 1) (v := .int .i64 (s.f)) rfl (by kernel_rfl) (by kernel_rfl) (by kernel_rfl) (fun _ _ _ h => h) (Or.inl ⟨by rfl, ?_⟩) hHeld ?_
          · intro w' hSw; subst hSw; have kx := y0; go_simp
          try simp only [ν1, ν2, ν3, ν4, ν5, ν6, ν7, ν8]
          refine wpAnyH_take (i := 2) (v := .pointer (some ⟨wo.heap.size, 1, none⟩)) rfl (by kernel_rfl) (by kernel_rfl) (by kernel_rfl) (fun _ _ _ h => h) (Or.inl ⟨by rfl, ?_⟩) hHeld ?_
          · intro w' hSw; subst hSw; go_simp <;> omega
          try simp only [ν1, ν2, ν3, ν4, ν5, ν6, ν7, ν8]
          refine wpAnyH_take (i := 3) (v := .int .i64 (s.t)) rfl (by kernel_rfl) (by kernel_rfl) (by kernel_rfl) (fun _ _ _ h => h) (Or.inl ⟨by rfl, ?_⟩) hHeld ?_
          · intro w' hSw; subst hSw; have kx := y1; go_simp
          try simp only [ν1, ν2, ν3, ν4, ν5, ν6, ν7, ν8]
          refine wpAnyH_take (i := 4) (v := .bool true) rfl (by kernel_rfl) (by kernel_rfl) (by kernel_rfl) (fun _ _ _ h => h) (Or.inl ⟨by rfl, ?_⟩) hHeld ?_
          · intro w' hSw; subst hSw; go_simp <;> omega
          try simp only [ν1, ν2, ν3, ν4, ν5, ν6, ν7, ν8]
          refine wpAnyH_take (i := 5) (v := .bool true) rfl (by kernel_rfl) (by kernel_rfl) (by kernel_rfl) (fun _ _ _ h => h) (Or.inl ⟨by rfl, ?_⟩) hHeld ?_
          · intro w' hSw; subst hSw; go_simp <;> omega
          try simp only [ν1, ν2, ν3, ν4, ν5, ν6, ν7, ν8]
          refine wpAnyH_take (i := 6) (v := undef) rfl (by kernel_rfl) (by kernel_rfl) (by kernel_rfl) (fun _ _ _ h => h) (Or.inr ⟨by kernel_rfl, rfl⟩) hHeld ?_
          try simp only [ν1, ν2, ν3, ν4, ν5, ν6, ν7, ν8]
          refine wpAnyH_take (i := 7) (v := undef) rfl (by kernel_rfl) (by kernel_rfl) (by kernel_rfl) (fun _ _ _ h => h) (Or.inr ⟨by kernel_rfl, rfl⟩) hHeld ?_
          try simp only [ν1, ν2, ν3, ν4, ν5, ν6, ν7, ν8]
          refine wpAnyH_take (i := 8) (v := undef) rfl (by kernel_rfl) (by kernel_rfl) (by kernel_rfl) (fun _ _ _ h => h) (Or.inr ⟨by kernel_rfl, rfl⟩) hHeld ?_
          try simp only [ν1, ν2, ν3, ν4, ν5, ν6, ν7, ν8]
          refine wpAnyH_take (i := 9) (v := undef) rfl (by kernel_rfl) (by kernel_rfl) (by kernel_rfl) (fun _ _ _ h => h) (Or.inr ⟨by kernel_rfl, rfl⟩) hHeld ?_
          try simp only [ν1, ν2, ν3, ν4, ν5, ν6, ν7, ν8]
          refine wpAnyH_take (i := 10) (v := undef) rfl (by kernel_rfl) (by kernel_rfl) (by kernel_rfl) (fun _ _ _ h => h) (Or.inr ⟨by kernel_rfl, rfl⟩) hHeld ?_
          try simp only [ν1, ν2, ν3, ν4, ν5, ν6, ν7, ν8]
          refine wpAnyH_take (i := 11) (v := undef) rfl (by kernel_rfl) (by kernel_rfl) (by kernel_rfl) (fun _ _ _ h => h) (Or.inr ⟨by kernel_rfl, rfl⟩) hHeld ?_
          try simp only [ν1, ν2, ν3, ν4, ν5, ν6, ν7, ν8]
          refine wpAnyH_take (i := 12) (v := undef) rfl (by kernel_rfl) (by kernel_rfl) (by kernel_rfl) (fun _ _ _ h => h) (Or.inr ⟨by kernel_rfl, rfl⟩) hHeld ?_
          try simp only [ν1, ν2, ν3, ν4, ν5, ν6, ν7, ν8]
          refine wpAnyH_take (i := 13) (v := undef) rfl (by kernel_rfl) (by kernel_rfl) (by kernel_rfl) (fun _ _ _ h => h) (Or.inr ⟨by kernel_rfl, rfl⟩) hHeld ?_
          try simp only [ν1, ν2, ν3, ν4, ν5, ν6, ν7, ν8]
          refine wpAnyH_take (i := 14) (v := undef) rfl (by kernel_rfl) (by kernel_rfl) (by kernel_rfl) (fun _ _ _ h => h) (Or.inr ⟨by kernel_rfl, rfl⟩) hHeld ?_
          try simp only [ν1, ν2, ν3, ν4, ν5, ν6, ν7, ν8]
          refine wpAnyH_take (i := 15) (v := undef) rfl (by kernel_rfl) (by kernel_rfl) (by kernel_rfl) (fun _ _ _ h => h) (Or.inr ⟨by kernel_rfl, rfl⟩) hHeld ?_
          try simp only [ν1, ν2, ν3, ν4, ν5, ν6, ν7, ν8]
          refine wpAnyH_take (i := 16) (v := undef) rfl (by kernel_rfl) (by kernel_rfl) (by kernel_rfl) (fun _ _ _ h => h) (Or.inr ⟨by kernel_rfl, rfl⟩) hHeld ?_
          try simp only [ν1, ν2, ν3, ν4, ν5, ν6, ν7, ν8]
          refine wpAnyH_take (i := 17) (v := undef) rfl (by kernel_rfl) (by kernel_rfl) (by kernel_rfl) (fun _ _ _ h => h) (Or.inr ⟨by kernel_rfl, rfl⟩) hHeld ?_
          try simp only [ν1, ν2, ν3, ν4, ν5, ν6, ν7, ν8]
          refine wpAnyH_take (i := 18) (v := undef) rfl (by kernel_rfl) (by kernel_rfl) (by kernel_rfl) (fun _ _ _ h => h) (Or.inr ⟨by kernel_rfl, rfl⟩) hHeld ?_
          try simp only [ν1, ν2, ν3, ν4, ν5, ν6, ν7, ν8]
          refine wpAnyH_take (i := 19) (v := .bool true) rfl (by kernel_rfl) (by kernel_rfl) (by kernel_rfl) (fun _ _ _ h => h) (Or.inl ⟨by rfl, ?_⟩) hHeld ?_
          · intro w' hSw; subst hSw; go_simp <;> omega
          try simp only [ν1, ν2, ν3, ν4, ν5, ν6, ν7, ν8]
          refine wpAnyH_done (by kernel_rfl) ?_ _
          clear hHeld
          go_wp2_with fail
          exact fin (hR _ Hdr.out) (show Value.bool _ = Value.bool _ by rw [setB_false hlt (by rw [Ho.out]; rw [decide_eq_false (by omega)]; rfl)])
    · go_wp2_with fail
      exact fin (hR _ hB) (show Value.bool _ = Value.bool _ by rw [setB_true (fun j hj => Hyes.out j (by omega))])

set_option maxRecDepth 100000 in
set_option maxHeartbeats 4000000 in
theorem Set_any (lo hi : Nat) (l : List Sp) (v : Value) (w : World) (hv : Spans lo hi w v l) (hhi : hi ≤ w.heap.size) (R : Ending → World → Prop) (hR : ∀ w', Below w.heap.size w w' → R (.returned (.bool (setB l))) w') :
    Calls Try.prog 30 #[v] w R := by
  obtain ⟨ao, cap, rfl, hcl, hcm, -, hc⟩ := hv.form
  have Hc := Lib.hid hc
  clear hv hc
  go_enter Try.func30, Try.ntmps30
  go_wp2_with fail
  go_loopw [3] (fun t3 wr => ∃ k : Nat, k ≤ l.length ∧ t3 = .int .i64 k ∧ (∀ j, j < k → spOk l j = true) ∧ Below w.heap.size w wr) (fun t3 _ => l.length - (intOf t3).toNat)
  case atStart => exact ⟨0, Nat.zero_le _, rfl, fun j h => absurd h (Nat.not_lt_zero _), Below.refl _ _⟩
  case round =>
    obtain ⟨k, hk, rfl, hyes, hB⟩ := hrel
    have Hyes := Lib.hid hyes
    clear hyes
    obtain ⟨wo, ewo⟩ : ∃ x, x = wr := ⟨_, rfl⟩
    subst ewo
    have hz := hB.size
    by_cases hlt : k < l.length
    · obtain ⟨b, off, rfl, hb1, hb2, hcc⟩ := Hc.out k hlt
      obtain ⟨cs, _, hcs, rfl⟩ := hcc k hlt
      obtain ⟨h0, h1⟩ := (hcs.agree (.below hB hhi) hb1 hb2).c2
      have hbw : b < wo.heap.size := by omega
      have Ho : Hid (spOk l k = (decide (l[k].f < l[k].t) && (k == 0 || decide ((l.getD (k - 1) default).t < l[k].f)))) := Lib.hid (by unfold spOk; rw [getD_at l _ k hlt])
      have HB := Lib.hid hB
      have kk0 : (0 : Int) ≤ (k : Int) := by omega
      have kkl : (k : Int) < (l.length : Int) := by omega
      clear hcs hB
      by_cases hk0 : 0 < k
      · obtain ⟨m, hm⟩ : ∃ m, k = m + 1 := ⟨k - 1, by omega⟩
        have hml : m < l.length := by omega
        obtain ⟨cs2, _, hcs2, rfl⟩ := hcc m hml
        obtain ⟨-, g0⟩ := (hcs2.agree (.below HB.out hhi) hb1 hb2).c2
        have wj : IntKind.i64.wrap ((k : Int) - 1) = (m : Int) := by rw [show (k : Int) - 1 = (m : Int) by omega]; exact wrap_ok (by omega) (by omega)
        have Hj : Hid (l.getD (k - 1) default = l[m]) := Lib.hid (by rw [show k - 1 = m by omega, getD_at l _ m hml])
        have j0 : (0 : Int) ≤ (m : Int) := by omega
        have jl : (m : Int) < (l.length : Int) := by omega
        clear hcs2 hcc
        generalize l[m] = p at *
        generalize hs : l[k] = s at *
        clear hs hm
        by_cases hft : s.f < s.t
        · by_cases hpt : p.t < s.f
          ·
            obtain ⟨wa, ewa⟩ : ∃ x, x = wo := ⟨_, rfl⟩
            subst ewa
            have y0 := h0
            have y1 := h1
            have Hdr := Lib.hid HB.out.drew
            clear h0 h1
            go_upto_region 4 with fail
            have g1 := g0
            refine wp_region_held_drew (S := fun w' => w' = wa.drew) (by kernel_rfl) rfl (fun hHeld => ?_)
            refine wpAnyH_take (i := 0) (v := .slice (some ⟨b, off, none⟩) l.length cap) rfl (by kernel_rfl) (by kernel_rfl) (by kernel_rfl) (fun _ _ _ h => h) (Or.inl ⟨by rfl, ?_⟩) hHeld ?_
            · intro w' hSw; subst hSw; go_simp <;> omega
            try simp only [ν1, ν2, ν3, ν4, ν5, ν6, ν7, ν8]
            refine wpAnyH_take (i := 1) (v := .int .i64 ((k : Int))) rfl (by kernel_rfl) (by kernel_rfl) (by kernel_rfl) (fun _ _ _ h => h) (Or.inl ⟨by rfl, ?_⟩) hHeld ?_
            · intro w' hSw; subst hSw; go_simp <;> omega
            try simp only [ν1, ν2, ν3, ν4, ν5, ν6, ν7, ν8]
            refine wpAnyH_take (i := 2) (v := .pointer (some ⟨b, off + k * 2, none⟩)) rfl (by kernel_rfl) (by kernel_rfl) (by kernel_rfl) (fun _ _ _ h => h) (Or.inl ⟨by rfl, ?_⟩) hHeld ?_
            · intro w' hSw; subst hSw; go_simp <;> omega
            try simp only [ν1, ν2, ν3, ν4, ν5, ν6, ν7, ν8]
            refine wpAnyH_take (i := 3) (v := .pointer (some ⟨b, off + k * 2, none⟩)) rfl (by kernel_rfl) (by kernel_rfl) (by kernel_rfl) (fun _ _ _ h => h) (Or.inl ⟨by rfl, ?_⟩) hHeld ?_
            · intro w' hSw; subst hSw; go_simp <;> omega
            try simp only [ν1, ν2, ν3, ν4, ν5, ν6, ν7, ν8]
            refine wpAnyH_take (i := 4) (v := .int .i64 (s.f)) rfl (by kernel_rfl) (by kernel_rfl) (by kernel_rfl) (fun _ _ _ h => h) (Or.inl ⟨by rfl, ?_⟩) hHeld ?_
            · intro w' hSw; subst hSw; have kx := y0; go_simp
            try simp only [ν1, ν2, ν3, ν4, ν5, ν6, ν7, ν8]
            refine wpAnyH_take (i := 5) (v := .slice (some ⟨b, off, none⟩) l.length cap) rfl (by kernel_rfl) (by kernel_rfl) (by kernel_rfl) (fun _ _ _ h => h) (Or.inl ⟨by rfl, ?_⟩) hHeld ?_
            · intro w' hSw; subst hSw; go_simp <;> omega
            try simp only [ν1, ν2, ν3, ν4, ν5, ν6, ν7, ν8]
            refine wpAnyH_take (i := 6) (v := .int .i64 ((k : Int))) rfl (by kernel_rfl) (by kernel_rfl) (by kernel_rfl) (fun _ _ _ h => h) (Or.inl ⟨by rfl, ?_⟩) hHeld ?_
            · intro w' hSw; subst hSw; go_simp <;> omega
            try simp only [ν1, ν2, ν3, ν4, ν5, ν6, ν7, ν8]
            refine wpAnyH_take (i := 7) (v := .pointer (some ⟨b, off + k * 2, none⟩)) rfl (by kernel_rfl) (by kernel_rfl) (by kernel_rfl) (fun _ _ _ h => h) (Or.inl ⟨by rfl, ?_⟩) hHeld ?_
            · intro w' hSw; subst hSw; go_simp <;> omega
            try simp only [ν1, ν2, ν3, ν4, ν5, ν6, ν7, ν8]
            refine wpAnyH_take (i := 8) (v := .pointer (some ⟨b, off + k * 2 + 1, none⟩)) rfl (by kernel_rfl) (by kernel_rfl) (by kernel_rfl) (fun _ _ _ h => h) (Or.inl ⟨by rfl, ?_⟩) hHeld ?_
            · intro w' hSw; subst hSw; go_simp <;> omega
            try simp only [ν1, ν2, ν3, ν4, ν5, ν6, ν7, ν8]
            refine wpAnyH_take (i := 9) (v := .int .i64 (s.t)) rfl (by kernel_rfl) (by kernel_rfl) (by kernel_rfl) (fun _ _ _ h => h) (Or.inl ⟨by rfl, ?_⟩) hHeld ?_
            · intro w' hSw; subst hSw; have kx := y1; go_simp
            try simp only [ν1, ν2, ν3, ν4, ν5, ν6, ν7, ν8]
            refine wpAnyH_take (i := 10) (v := .bool false) rfl (by kernel_rfl) (by kernel_rfl) (by kernel_rfl) (fun _ _ _ h => h) (Or.inl ⟨by rfl, ?_⟩) hHeld ?_
            · intro w' hSw; subst hSw; go_simp <;> omega
            try simp only [ν1, ν2, ν3, ν4, ν5, ν6, ν7, ν8]
            refine wpAnyH_take (i := 11) (v := .bool false) rfl (by kernel_rfl) (by kernel_rfl) (by kernel_rfl) (fun _ _ _ h => h) (Or.inl ⟨by rfl, ?_⟩) hHeld ?_
            · intro w' hSw; subst hSw; go_simp <;> omega
            try simp only [ν1, ν2, ν3, ν4, ν5, ν6, ν7, ν8]
            refine wpAnyH_take (i := 12) (v := .int .i64 ((k : Int))) rfl (by kernel_rfl) (by kernel_rfl) (by kernel_rfl) (fun _ _ _ h => h) (Or.inl ⟨by rfl, ?_⟩) hHeld ?_
            · intro w' hSw; subst hSw; go_simp <;> omega
            try simp only [ν1, ν2, ν3, ν4, ν5, ν6, ν7, ν8]
            refine wpAnyH_take (i := 13) (v := .bool true) rfl (by kernel_rfl) (by kernel_rfl) (by kernel_rfl) (fun _ _ _ h => h) (Or.inl ⟨by rfl, ?_⟩) hHeld ?_
            · intro w' hSw; subst hSw; go_simp <;> omega
            try simp only [ν1, ν2, ν3, ν4, ν5, ν6, ν7, ν8]
            refine wpAnyH_take (i := 14) (v := .bool true) rfl (by kernel_rfl) (by kernel_rfl) (by kernel_rfl) (fun _ _ _ h => h) (Or.inl ⟨by rfl, ?_⟩) hHeld ?_
            · intro w' hSw; subst hSw; go_simp <;> omega
            try simp only [ν1, ν2, ν3, ν4, ν5, ν6, ν7, ν8]
            refine wpAnyH_take (i := 15) (v := .slice (some ⟨b, off, none⟩) l.length cap) rfl (by kernel_rfl) (by kernel_rfl) (by kernel_rfl) (fun _ _ _ h => h) (Or.inl ⟨by rfl, ?_⟩) hHeld ?_
            · intro w' hSw; subst hSw; go_simp <;> omega
            try simp only [ν1, ν2, ν3, ν4, ν5, ν6, ν7, ν8]
            refine wpAnyH_take (i := 16) (v := .int .i64 ((k : Int))) rfl (by kernel_rfl) (by kernel_rfl) (by kernel_rfl) (fun _ _ _ h => h) (Or.inl ⟨by rfl, ?_⟩) hHeld ?_
            · intro w' hSw; subst hSw; go_simp <;> omega
            try simp only [ν1, ν2, ν3, ν4, ν5, ν6, ν7, ν8]
            refine wpAnyH_take (i := 17) (v := .int .i64 ((m : Int))) rfl (by kernel_rfl) (by kernel_rfl) (by kernel_rfl) (fun _ _ _ h => h) (Or.inl ⟨by rfl, ?_⟩) hHeld ?_
            · intro w' hSw; subst hSw; go_simp <;> omega
            try simp only [ν1, ν2, ν3, ν4, ν5, ν6, ν7, ν8]
            refine wpAnyH_take (i := 18) (v := .pointer (some ⟨b, off + m * 2, none⟩)) rfl (by kernel_rfl) (by kernel_rfl) (by kernel_rfl) (fun _ _ _ h => h) (Or.inl ⟨by rfl, ?_⟩) hHeld ?_
            · intro w' hSw; subst hSw; go_simp <;> omega
            try simp only [ν1, ν2, ν3, ν4, ν5, ν6, ν7, ν8]
            refine wpAnyH_take (i := 19) (v := .pointer (some ⟨b, off + m * 2 + 1, none⟩)) rfl (by kernel_rfl) (by kernel_rfl) (by kernel_rfl) (fun _ _ _ h => h) (Or.inl ⟨by rfl, ?_⟩) hHeld ?_
            · intro w' hSw; subst hSw; go_simp <;> omega
            try simp only [ν1, ν2, ν3, ν4, ν5, ν6, ν7, ν8]
            refine wpAnyH_take (i := 20) (v := .int .i64 (p.t)) rfl (by kernel_rfl) (by kernel_rfl) (by kernel_rfl) (fun _ _ _ h => h) (Or.inl ⟨by rfl, ?_⟩) hHeld ?_
            · intro w' hSw; subst hSw; have kx := g1; go_simp
            try simp only [ν1, ν2, ν3, ν4, ν5, ν6, ν7, ν8]
            refine wpAnyH_take (i := 21) (v := .slice (some ⟨b, off, none⟩) l.length cap) rfl (by kernel_rfl) (by kernel_rfl) (by kernel_rfl) (fun _ _ _ h => h) (Or.inl ⟨by rfl, ?_⟩) hHeld ?_
            · intro w' hSw; subst hSw; go_simp <;> omega
            try simp only [ν1, ν2, ν3, ν4, ν5, ν6, ν7, ν8]
            refine wpAnyH_take (i := 22) (v := .int .i64 ((k : Int))) rfl (by kernel_rfl) (by kernel_rfl) (by kernel_rfl) (fun _ _ _ h => h) (Or.inl ⟨by rfl, ?_⟩) hHeld ?_
            · intro w' hSw; subst hSw; go_simp <;> omega
            try simp only [ν1, ν2, ν3, ν4, ν5, ν6, ν7, ν8]
            refine wpAnyH_take (i := 23) (v := .pointer (some ⟨b, off + k * 2, none⟩)) rfl (by kernel_rfl) (by kernel_rfl) (by kernel_rfl) (fun _ _ _ h => h) (Or.inl ⟨by rfl, ?_⟩) hHeld ?_
            · intro w' hSw; subst hSw; go_simp <;> omega
            try simp only [ν1, ν2, ν3, ν4, ν5, ν6, ν7, ν8]
            refine wpAnyH_take (i := 24) (v := .pointer (some ⟨b, off + k * 2, none⟩)) rfl (by kernel_rfl) (by kernel_rfl) (by kernel_rfl) (fun _ _ _ h => h) (Or.inl ⟨by rfl, ?_⟩) hHeld ?_
            · intro w' hSw; subst hSw; go_simp <;> omega
            try simp only [ν1, ν2, ν3, ν4, ν5, ν6, ν7, ν8]
            refine wpAnyH_take (i := 25) (v := .int .i64 (s.f)) rfl (by kernel_rfl) (by kernel_rfl) (by kernel_rfl) (fun _ _ _ h => h) (Or.inl ⟨by rfl, ?_⟩) hHeld ?_
            · intro w' hSw; subst hSw; have kx := y0; go_simp
            try simp only [ν1, ν2, ν3, ν4, ν5, ν6, ν7, ν8]
            refine wpAnyH_take (i := 26) (v := .bool false) rfl (by kernel_rfl) (by kernel_rfl) (by kernel_rfl) (fun _ _ _ h => h) (Or.inl ⟨by rfl, ?_⟩) hHeld ?_
            · intro w' hSw; subst hSw; go_simp <;> omega
            try simp only [ν1, ν2, ν3, ν4, ν5, ν6, ν7, ν8]
            refine wpAnyH_take (i := 27) (v := .bool false) rfl (by kernel_rfl) (by kernel_rfl) (by kernel_rfl) (fun _ _ _ h => h) (Or.inl ⟨by rfl, ?_⟩) hHeld ?_
            · intro w' hSw; subst hSw; go_simp <;> omega
            try simp only [ν1, ν2, ν3, ν4, ν5, ν6, ν7, ν8]
            refine wpAnyH_take (i := 28) (v := .bool false) rfl (by kernel_rfl) (by kernel_rfl) (by kernel_rfl) (fun _ _ _ h => h) (Or.inl ⟨by rfl, ?_⟩) hHeld ?_
            · intro w' hSw; subst hSw; go_simp <;> omega
            try simp only [ν1, ν2, ν3, ν4, ν5, ν6, ν7, ν8]
            refine wpAnyH_done (by kernel_rfl) ?_ _
            clear hHeld
            go_wp2_with fail
            go_roundw
            case rel => exact ⟨k + 1, by omega, by go_num, fun j hj => by
              by_cases e : j = k
              · subst e; rw [Ho.out, Hj.out]; simp [hft, hpt]
              · exact Hyes.out j (by omega), Hdr.out⟩
            case measure => simp [intOf]; omega
          ·
            obtain ⟨wa, ewa⟩ : ∃ x, x = wo := ⟨_, rfl⟩
            subst ewa
            have y0 := h0
            have y1 := h1
            have Hdr := Lib.hid HB.out.drew
            clear h0 h1
            go_upto_region 4 with fail
            have g1 := g0
            refine wp_region_held_drew (S := fun w' => w' = wa.drew) (by kernel_rfl) rfl (fun hHeld => ?_)
            refine wpAnyH_take (i := 0) (v := .slice (some ⟨b, off, none⟩) l.length cap) rfl (by kernel_rfl) (by kernel_rfl) (by kernel_rfl) (fun _ _ _ h => h) (Or.inl ⟨by rfl, ?_⟩) hHeld ?_
            · intro w' hSw; subst hSw; go_simp <;> omega
            try simp only [ν1, ν2, ν3, ν4, ν5, ν6, ν7, ν8]
            refine wpAnyH_take (i := 1) (v := .int .i64 ((k : Int))) rfl (by kernel_rfl) (by kernel_rfl) (by kernel_rfl) (fun _ _ _ h => h) (Or.inl ⟨by rfl, ?_⟩) hHeld ?_
            · intro w' hSw; subst hSw; go_simp <;> omega
            try simp only [ν1, ν2, ν3, ν4, ν5, ν6, ν7, ν8]
            refine wpAnyH_take (i := 2) (v := .pointer (some ⟨b, off + k * 2, none⟩)) rfl (by kernel_rfl) (by kernel_rfl) (by kernel_rfl) (fun _ _ _ h => h) (Or.inl ⟨by rfl, ?_⟩) hHeld ?_
            · intro w' hSw; subst hSw; go_simp <;> omega
            try simp only [ν1, ν2, ν3, ν4, ν5, ν6, ν7, ν8]
            refine wpAnyH_take (i := 3) (v := .pointer (some ⟨b, off + k * 2, none⟩)) rfl (by kernel_rfl) (by kernel_rfl) (by kernel_rfl) (fun _ _ _ h => h) (Or.inl ⟨by rfl, ?_⟩) hHeld ?_
            · intro w' hSw; subst hSw; go_simp <;> omega
            try simp only [ν1, ν2, ν3, ν4, ν5, ν6, ν7, ν8]
            refine wpAnyH_take (i := 4) (v := .int .i64 (s.f)) rfl (by kernel_rfl) (by kernel_rfl) (by kernel_rfl) (fun _ _ _ h => h) (Or.inl ⟨by rfl, ?_⟩) hHeld ?_
            · intro w' hSw; subst hSw; have kx := y0; go_simp
            try simp only [ν1, ν2, ν3, ν4, ν5, ν6, ν7, ν8]
            refine wpAnyH_take (i := 5) (v := .slice (some ⟨b, off, none⟩) l.length cap) rfl (by kernel_rfl) (by kernel_rfl) (by kernel_rfl) (fun _ _ _ h => h) (Or.inl ⟨by rfl, ?_⟩) hHeld ?_
            · intro w' hSw; subst hSw; go_simp <;> omega
            try simp only [ν1, ν2, ν3, ν4, ν5, ν6, ν7, ν8]
            refine wpAnyH_take (i := 6) (v := .int .i64 ((k : Int))) rfl (by kernel_rfl) (by kernel_rfl) (by kernel_rfl) (fun _ _ _ h => h) (Or.inl ⟨by rfl, ?_⟩) hHeld ?_
            · intro w' hSw; subst hSw; go_simp <;> omega
            try simp only [ν1, ν2, ν3, ν4, ν5, ν6, ν7, ν8]
            refine wpAnyH_take (i := 7) (v := .pointer (some ⟨b, off + k * 2, none⟩)) rfl (by kernel_rfl) (by kernel_rfl) (by kernel_rfl) (fun _ _ _ h => h) (Or.inl ⟨by rfl, ?_⟩) hHeld ?_
            · intro w' hSw; subst hSw; go_simp <;> omega
            try simp only [ν1, ν2, ν3, ν4, ν5, ν6, ν7, ν8]
            refine wpAnyH_take (i := 8) (v := .pointer (some ⟨b, off + k * 2 + 1, none⟩)) rfl (by kernel_rfl) (by kernel_rfl) (by kernel_rfl) (fun _ _ _ h => h) (Or.inl ⟨by rfl, ?_⟩) hHeld ?_
            · intro w' hSw; subst hSw; go_simp <;> omega
            try simp only [ν1, ν2, ν3, ν4, ν5, ν6, ν7, ν8]
            refine wpAnyH_take (i := 9) (v := .int .i64 (s.t)) rfl (by kernel_rfl) (by kernel_rfl) (by kernel_rfl) (fun _ _ _ h => h) (Or.inl ⟨by rfl, ?_⟩) hHeld ?_
            · intro w' hSw; subst hSw; have kx := y1; go_simp
            try simp only [ν1, ν2, ν3, ν4, ν5, ν6, ν7, ν8]
            refine wpAnyH_take (i := 10) (v := .bool false) rfl (by kernel_rfl) (by kernel_rfl) (by kernel_rfl) (fun _ _ _ h => h) (Or.inl ⟨by rfl, ?_⟩) hHeld ?_
            · intro w' hSw; subst hSw; go_simp <;> omega
            try simp only [ν1, ν2, ν3, ν4, ν5, ν6, ν7, ν8]
            refine wpAnyH_take (i := 11) (v := .bool false) rfl (by kernel_rfl) (by kernel_rfl) (by kernel_rfl) (fun _ _ _ h => h) (Or.inl ⟨by rfl, ?_⟩) hHeld ?_
            · intro w' hSw; subst hSw; go_simp <;> omega
            try simp only [ν1, ν2, ν3, ν4, ν5, ν6, ν7, ν8]
            refine wpAnyH_take (i := 12) (v := .int .i64 ((k : Int))) rfl (by kernel_rfl) (by kernel_rfl) (by kernel_rfl) (fun _ _ _ h => h) (Or.inl ⟨by rfl, ?_⟩) hHeld ?_
            · intro w' hSw; subst hSw; go_simp <;> omega
            try simp only [ν1, ν2, ν3, ν4, ν5, ν6, ν7, ν8]
            refine wpAnyH_take (i := 13) (v := .bool true) rfl (by kernel_rfl) (by kernel_rfl) (by kernel_rfl) (fun _ _ _ h => h) (Or.inl ⟨by rfl, ?_⟩) hHeld ?_
            · intro w' hSw; subst hSw; go_simp <;> omega
            try simp only [ν1, ν2, ν3, ν4, ν5, ν6, ν7, ν8]
            refine wpAnyH_take (i := 14) (v := .bool true) rfl (by kernel_rfl) (by kernel_rfl) (by kernel_rfl) (fun _ _ _ h => h) (Or.inl ⟨by rfl, ?_⟩) hHeld ?_
            · intro w' hSw; subst hSw; go_simp <;> omega
            try simp only [ν1, ν2, ν3, ν4, ν5, ν6, ν7, ν8]
            refine wpAnyH_take (i := 15) (v := .slice (some ⟨b, off, none⟩) l.length cap) rfl (by kernel_rfl) (by kernel_rfl) (by kernel_rfl) (fun _ _ _ h => h) (Or.inl ⟨by rfl, ?_⟩) hHeld ?_
            · intro w' hSw; subst hSw; go_simp <;> omega
            try simp only [ν1, ν2, ν3, ν4, ν5, ν6, ν7, ν8]
            refine wpAnyH_take (i := 16) (v := .int .i64 ((k : Int))) rfl (by kernel_rfl) (by kernel_rfl) (by kernel_rfl) (fun _ _ _ h => h) (Or.inl ⟨by rfl, ?_⟩) hHeld ?_
            · intro w' hSw; subst hSw; go_simp <;> omega
            try simp only [ν1, ν2, ν3, ν4, ν5, ν6, ν7, ν8]
            refine wpAnyH_take (i := 17) (v := .int .i64 ((m : Int))) rfl (by kernel_rfl) (by kernel_rfl) (by kernel_rfl) (fun _ _ _ h => h) (Or.inl ⟨by rfl, ?_⟩) hHeld ?_
            · intro w' hSw; subst hSw; go_simp <;> omega
            try simp only [ν1, ν2, ν3, ν4, ν5, ν6, ν7, ν8]
            refine wpAnyH_take (i := 18) (v := .pointer (some ⟨b, off + m * 2, none⟩)) rfl (by kernel_rfl) (by kernel_rfl) (by kernel_rfl) (fun _ _ _ h => h) (Or.inl ⟨by rfl, ?_⟩) hHeld ?_
            · intro w' hSw; subst hSw; go_simp <;> omega
            try simp only [ν1, ν2, ν3, ν4, ν5, ν6, ν7, ν8]
            refine wpAnyH_take (i := 19) (v := .pointer (some ⟨b, off + m * 2 + 1, none⟩)) rfl (by kernel_rfl) (by kernel_rfl) (by kernel_rfl) (fun _ _ _ h => h) (Or.inl ⟨by rfl, ?_⟩) hHeld ?_
            · intro w' hSw; subst hSw; go_simp <;> omega
            try simp only [ν1, ν2, ν3, ν4, ν5, ν6, ν7, ν8]
            refine wpAnyH_take (i := 20) (v := .int .i64 (p.t)) rfl (by kernel_rfl) (by kernel_rfl) (by kernel_rfl) (fun _ _ _ h => h) (Or.inl ⟨by rfl, ?_⟩) hHeld ?_
            · intro w' hSw; subst hSw; have kx := g1; go_simp
            try simp only [ν1, ν2, ν3, ν4, ν5, ν6, ν7, ν8]
            refine wpAnyH_take (i := 21) (v := .slice (some ⟨b, off, none⟩) l.length cap) rfl (by kernel_rfl) (by kernel_rfl) (by kernel_rfl) (fun _ _ _ h => h) (Or.inl ⟨by rfl, ?_⟩) hHeld ?_
            · intro w' hSw; subst hSw; go_simp <;> omega
            try simp only [ν1, ν2, ν3, ν4, ν5, ν6, ν7, ν8]
            refine wpAnyH_take (i := 22) (v := .int .i64 ((k : Int))) rfl (by kernel_rfl) (by kernel_rfl) (by kernel_rfl) (fun _ _ _ h => h) (Or.inl ⟨by rfl, ?_⟩) hHeld ?_
            · intro w' hSw; subst hSw; go_simp <;> omega
            try simp only [ν1, ν2, ν3, ν4, ν5, ν6, ν7, ν8]
            refine wpAnyH_take (i := 23) (v := .pointer (some ⟨b, off + k * 2, none⟩)) rfl (by kernel_rfl) (by kernel_rfl) (by kernel_rfl) (fun _ _ _ h => h) (Or.inl ⟨by rfl, ?_⟩) hHeld ?_
            · intro w' hSw; subst hSw; go_simp <;> omega
            try simp only [ν1, ν2, ν3, ν4, ν5, ν6, ν7, ν8]
            refine wpAnyH_take (i := 24) (v := .pointer (some ⟨b, off + k * 2, none⟩)) rfl (by kernel_rfl) (by kernel_rfl) (by kernel_rfl) (fun _ _ _ h => h) (Or.inl ⟨by rfl, ?_⟩) hHeld ?_
            · intro w' hSw; subst hSw; go_simp <;> omega
            try simp only [ν1, ν2, ν3, ν4, ν5, ν6, ν7, ν8]
            refine wpAnyH_take (i := 25) (v := .int .i64 (s.f)) rfl (by kernel_rfl) (by kernel_rfl) (by kernel_rfl) (fun _ _ _ h => h) (Or.inl ⟨by rfl, ?_⟩) hHeld ?_
            · intro w' hSw; subst hSw; have kx := y0; go_simp
            try simp only [ν1, ν2, ν3, ν4, ν5, ν6, ν7, ν8]
            refine wpAnyH_take (i := 26) (v := .bool true) rfl (by kernel_rfl) (by kernel_rfl) (by kernel_rfl) (fun _ _ _ h => h) (Or.inl ⟨by rfl, ?_⟩) hHeld ?_
            · intro w' hSw; subst hSw; go_simp <;> omega
            try simp only [ν1, ν2, ν3, ν4, ν5, ν6, ν7, ν8]
            refine wpAnyH_take (i := 27) (v := .bool true) rfl (by kernel_rfl) (by kernel_rfl) (by kernel_rfl) (fun _ _ _ h => h) (Or.inl ⟨by rfl, ?_⟩) hHeld ?_
            · intro w' hSw; subst hSw; go_simp <;> omega
            try simp only [ν1, ν2, ν3, ν4, ν5, ν6, ν7, ν8]
            refine wpAnyH_take (i := 28) (v := .bool true) rfl (by kernel_rfl) (by kernel_rfl) (by kernel_rfl) (fun _ _ _ h => h) (Or.inl ⟨by rfl, ?_⟩) hHeld ?_
            · intro w' hSw; subst hSw; go_simp <;> omega
            try simp only [ν1, ν2, ν3, ν4, ν5, ν6, ν7, ν8]
            refine wpAnyH_done (by kernel_rfl) ?_ _
            clear hHeld
            go_wp2_with fail
            exact fin (hR _ Hdr.out) (show Value.bool _ = Value.bool _ by rw [setB_false hlt (by rw [Ho.out, Hj.out]; simp [hpt]; omega)])
        ·
          obtain ⟨wa, ewa⟩ : ∃ x, x = wo := ⟨_, rfl⟩
          subst ewa
          have y0 := h0
          have y1 := h1
          have Hdr := Lib.hid HB.out.drew
          clear h0 h1
          go_upto_region 4 with fail
          have g1 := g0
          refine wp_region_held_drew (S := fun w' => w' = wa.drew) (by kernel_rfl) rfl (fun hHeld => ?_)
          refine wpAnyH_take (i := 0) (v := .slice (some ⟨b, off, none⟩) l.length cap) rfl (by kernel_rfl) (by kernel_rfl) (by kernel_rfl) (fun _ _ _ h => h) (Or.inl ⟨by rfl, ?_⟩) hHeld ?_
          · intro w' hSw; subst hSw; go_simp <;> omega
          try simp only [ν1, ν2, ν3, ν4, ν5, ν6, ν7, ν8]
          refine wpAnyH_take (i := 1) (v := .int .i64 ((k : Int))) rfl (by kernel_rfl) (by kernel_rfl) (by kernel_rfl) (fun _ _ _ h => h) (Or.inl ⟨by rfl, ?_⟩) hHeld ?_
          · intro w' hSw; subst hSw; go_simp <;> omega
          try simp only [ν1, ν2, ν3, ν4, ν5, ν6, ν7, ν8]
          refine wpAnyH_take (i := 2) (v := .pointer (some ⟨b, off + k * 2, none⟩)) rfl (by kernel_rfl) (by kernel_rfl) (by kernel_rfl) (fun _ _ _ h => h) (Or.inl ⟨by rfl, ?_⟩) hHeld ?_
          · intro w' hSw; subst hSw; go_simp <;> omega
          try simp only [ν1, ν2, ν3, ν4, ν5, ν6, ν7, ν8]
          refine wpAnyH_take (i := 3) (v := .pointer (some ⟨b, off + k * 2, none⟩)) rfl (by kernel_rfl) (by kernel_rfl) (by kernel_rfl) (fun _ _ _ h => h) (Or.inl ⟨by rfl, ?_⟩) hHeld ?_
          · intro w' hSw; subst hSw; go_simp <;> omega
          try simp only [ν1, ν2, ν3, ν4, ν5, ν6, ν7, ν8]
          refine wpAnyH_take (i := 4) (v := .int .i64 (s.f)) rfl (by kernel_rfl) (by kernel_rfl) (by kernel_rfl) (fun _ _ _ h => h) (Or.inl ⟨by rfl, ?_⟩) hHeld ?_
          · intro w' hSw; subst hSw; have kx := y0; go_simp
          try simp only [ν1, ν2, ν3, ν4, ν5, ν6, ν7, ν8]
          refine wpAnyH_take (i := 5) (v := .slice (some ⟨b, off, none⟩) l.length cap) rfl (by kernel_rfl) (by kernel_rfl) (by kernel_rfl) (fun _ _ _ h => h) (Or.inl ⟨by rfl, ?_⟩) hHeld ?_
          · intro w' hSw; subst hSw; go_simp <;> omega
          try simp only [ν1, ν2, ν3, ν4, ν5, ν6, ν7, ν8]
          refine wpAnyH_take (i := 6) (v := .int .i64 ((k : Int))) rfl (by kernel_rfl) (by kernel_rfl) (by kernel_rfl) (fun _ _ _ h => h) (Or.inl ⟨by rfl, ?_⟩) hHeld ?_
          · intro w' hSw; subst hSw; go_simp <;> omega
          try simp only [ν1, ν2, ν3, ν4, ν5, ν6, ν7, ν8]
          refine wpAnyH_take (i := 7) (v := .pointer (some ⟨b, off + k * 2, none⟩)) rfl (by kernel_rfl) (by kernel_rfl) (by kernel_rfl) (fun _ _ _ h => h) (Or.inl ⟨by rfl, ?_⟩) hHeld ?_
          · intro w' hSw; subst hSw; go_simp <;> omega
          try simp only [ν1, ν2, ν3, ν4, ν5, ν6, ν7, ν8]
          refine wpAnyH_take (i := 8) (v := .pointer (some ⟨b, off + k * 2 + 1, none⟩)) rfl (by kernel_rfl) (by kernel_rfl) (by kernel_rfl) (fun _ _ _ h => h) (Or.inl ⟨by rfl, ?_⟩) hHeld ?_
          · intro w' hSw; subst hSw; go_simp <;> omega
          try simp only [ν1, ν2, ν3, ν4, ν5, ν6, ν7, ν8]
          refine wpAnyH_take (i := 9) (v := .int .i64 (s.t)) rfl (by kernel_rfl) (by kernel_rfl) (by kernel_rfl) (fun _ _ _ h => h) (Or.inl ⟨by rfl, ?_⟩) hHeld ?_
          · intro w' hSw; subst hSw; have kx := y1; go_simp
          try simp only [ν1, ν2, ν3, ν4, ν5, ν6, ν7, ν8]
          refine wpAnyH_take (i := 10) (v := .bool true) rfl (by kernel_rfl) (by kernel_rfl) (by kernel_rfl) (fun _ _ _ h => h) (Or.inl ⟨by rfl, ?_⟩) hHeld ?_
          · intro w' hSw; subst hSw; go_simp <;> omega
          try simp only [ν1, ν2, ν3, ν4, ν5, ν6, ν7, ν8]
          refine wpAnyH_take (i := 11) (v := .bool true) rfl (by kernel_rfl) (by kernel_rfl) (by kernel_rfl) (fun _ _ _ h => h) (Or.inl ⟨by rfl, ?_⟩) hHeld ?_
          · intro w' hSw; subst hSw; go_simp <;> omega
          try simp only [ν1, ν2, ν3, ν4, ν5, ν6, ν7, ν8]
          refine wpAnyH_take (i := 12) (v := undef) rfl (by kernel_rfl) (by kernel_rfl) (by kernel_rfl) (fun _ _ _ h => h) (Or.inr ⟨by kernel_rfl, rfl⟩) hHeld ?_
          try simp only [ν1, ν2, ν3, ν4, ν5, ν6, ν7, ν8]
          refine wpAnyH_take (i := 13) (v := undef) rfl (by kernel_rfl) (by kernel_rfl) (by kernel_rfl) (fun _ _ _ h => h) (Or.inr ⟨by kernel_rfl, rfl⟩) hHeld ?_
          try simp only [ν1, ν2, ν3, ν4, ν5, ν6, ν7, ν8]
          refine wpAnyH_take (i := 14) (v := undef) rfl (by kernel_rfl) (by kernel_rfl) (by kernel_rfl) (fun _ _ _ h => h) (Or.inr ⟨by kernel_rfl, rfl⟩) hHeld ?_
          try simp only [ν1, ν2, ν3, ν4, ν5, ν6, ν7, ν8]
          refine wpAnyH_take (i := 15) (v := undef) rfl (by kernel_rfl) (by kernel_rfl) (by kernel_rfl) (fun _ _ _ h => h) (Or.inr ⟨by kernel_rfl, rfl⟩) hHeld ?_
          try simp only [ν1, ν2, ν3, ν4, ν5, ν6, ν7, ν8]
          refine wpAnyH_take (i := 16) (v := undef) rfl (by kernel_rfl) (by kernel_rfl) (by kernel_rfl) (fun _ _ _ h => h) (Or.inr ⟨by kernel_rfl, rfl⟩) hHeld ?_
          try simp only [ν1, ν2, ν3, ν4, ν5, ν6, ν7, ν8]
          refine wpAnyH_take (i := 17) (v := undef) rfl (by kernel_rfl) (by kernel_rfl) (by kernel_rfl) (fun _ _ _ h => h) (Or.inr ⟨by kernel_rfl, rfl⟩) hHeld ?_
          try simp only [ν1, ν2, ν3, ν4, ν5, ν6, ν7, ν8]
          refine wpAnyH_take (i := 18) (v := undef) rfl (by kernel_rfl) (by kernel_rfl) (by kernel_rfl) (fun _ _ _ h => h) (Or.inr ⟨by kernel_rfl, rfl⟩) hHeld ?_
          try simp only [ν1, ν2, ν3, ν4, ν5, ν6, ν7, ν8]
          refine wpAnyH_take (i := 19) (v := undef) rfl (by kernel_rfl) (by kernel_rfl) (by kernel_rfl) (fun _ _ _ h => h) (Or.inr ⟨by kernel_rfl, rfl⟩) hHeld ?_
          try simp only [ν1, ν2, ν3, ν4, ν5, ν6, ν7, ν8]
          refine wpAnyH_take (i := 20) (v := undef) rfl (by kernel_rfl) (by kernel_rfl) (by kernel_rfl) (fun _ _ _ h => h) (Or.inr ⟨by kernel_rfl, rfl⟩) hHeld ?_
          try simp only [ν1, ν2, ν3, ν4, ν5, ν6, ν7, ν8]
          refine wpAnyH_take (i := 21) (v := undef) rfl (by kernel_rfl) (by kernel_rfl) (by kernel_rfl) (fun _ _ _ h => h) (Or.inr ⟨by kernel_rfl, rfl⟩) hHeld ?_
          try simp only [ν1, ν2, ν3, ν4, ν5, ν6, ν7, ν8]
          refine wpAnyH_take (i := 22) (v := undef) rfl (by kernel_rfl) (by kernel_rfl) (by kernel_rfl) (fun _ _ _ h => h) (Or.inr ⟨by kernel_rfl, rfl⟩) hHeld ?_
          try simp only [ν1, ν2, ν3, ν4, ν5, ν6, ν7, ν8]
          refine wpAnyH_take (i := 23) (v := undef) rfl (by kernel_rfl) (by kernel_rfl) (by kernel_rfl) (fun _ _ _ h => h) (Or.inr ⟨by kernel_rfl, rfl⟩) hHeld ?_
          try simp only [ν1, ν2, ν3, ν4, ν5, ν6, ν7, ν8]
          refine wpAnyH_take (i := 24) (v := undef) rfl (by kernel_rfl) (by kernel_rfl) (by kernel_rfl) (fun _ _ _ h => h) (Or.inr ⟨by kernel_rfl, rfl⟩) hHeld ?_
          try simp only [ν1, ν2, ν3, ν4, ν5, ν6, ν7, ν8]
          refine wpAnyH_take (i := 25) (v := undef) rfl (by kernel_rfl) (by kernel_rfl) (by kernel_rfl) (fun _ _ _ h => h) (Or.inr ⟨by kernel_rfl, rfl⟩) hHeld ?_
          try simp only [ν1, ν2, ν3, ν4, ν5, ν6, ν7, ν8]
          refine wpAnyH_take (i := 26) (v := undef) rfl (by kernel_rfl) (by kernel_rfl) (by kernel_rfl) (fun _ _ _ h => h) (Or.inr ⟨by kernel_rfl, rfl⟩) hHeld ?_
          try simp only [ν1, ν2, ν3, ν4, ν5, ν6, ν7, ν8]
          refine wpAnyH_take (i := 27) (v := undef) rfl (by kernel_rfl) (by kernel_rfl) (by kernel_rfl) (fun _ _ _ h => h) (Or.inr ⟨by kernel_rfl, rfl⟩) hHeld ?_
          try simp only [ν1, ν2, ν3, ν4, ν5, ν6, ν7, ν8]
          refine wpAnyH_take (i := 28) (v := .bool true) rfl (by kernel_rfl) (by kernel_rfl) (by kernel_rfl) (fun _ _ _ h => h) (Or.inl ⟨by rfl, ?_⟩) hHeld ?_
          · intro w' hSw; subst hSw; go_simp <;> omega
          try simp only [ν1, ν2, ν3, ν4, ν5, ν6, ν7, ν8]
          refine wpAnyH_done (by kernel_rfl) ?_ _
          clear hHeld
          go_wp2_with fail
          exact fin (hR _ Hdr.out) (show Value.bool _ = Value.bool _ by rw [setB_false hlt (by rw [Ho.out]; rw [decide_eq_false (by omega)]; rfl)])
      · clear hcc
        generalize hs : l[k] = s at *
        clear hs
        have k0 : (k : Int) ≤ 0 := by omega
        by_cases hft : s.f < s.t
        ·
          obtain ⟨wa, ewa⟩ : ∃ x, x = wo := ⟨_, rfl⟩
          subst ewa
          have y0 := h0
          have y1 := h1
          have Hdr := Lib.hid HB.out.drew
          clear h0 h1
          go_upto_region 4 with fail
          refine wp_region_held_drew (S := fun w' => w' = wa.drew) (by kernel_rfl) rfl (fun hHeld => ?_)
          refine wpAnyH_take (i := 0) (v := .slice (some ⟨b, off, none⟩) l.length cap) rfl (by kernel_rfl) (by kernel_rfl) (by kernel_rfl) (fun _ _ _ h => h) (Or.inl ⟨by rfl, ?_⟩) hHeld ?_
          · intro w' hSw; subst hSw; go_simp <;> omega
          try simp only [ν1, ν2, ν3, ν4, ν5, ν6, ν7, ν8]
          refine wpAnyH_take (i := 1) (v := .int .i64 ((k : Int))) rfl (by kernel_rfl) (by kernel_rfl) (by kernel_rfl) (fun _ _ _ h => h) (Or.inl ⟨by rfl, ?_⟩) hHeld ?_
          · intro w' hSw; subst hSw; go_simp <;> omega
          try simp only [ν1, ν2, ν3, ν4, ν5, ν6, ν7, ν8]
          refine wpAnyH_take (i := 2) (v := .pointer (some ⟨b, off + k * 2, none⟩)) rfl (by kernel_rfl) (by kernel_rfl) (by kernel_rfl) (fun _ _ _ h => h) (Or.inl ⟨by rfl, ?_⟩) hHeld ?_
          · intro w' hSw; subst hSw; go_simp <;> omega
          try simp only [ν1, ν2, ν3, ν4, ν5, ν6, ν7, ν8]
          refine wpAnyH_take (i := 3) (v := .pointer (some ⟨b, off + k * 2, none⟩)) rfl (by kernel_rfl) (by kernel_rfl) (by kernel_rfl) (fun _ _ _ h => h) (Or.inl ⟨by rfl, ?_⟩) hHeld ?_
          · intro w' hSw; subst hSw; go_simp <;> omega
          try simp only [ν1, ν2, ν3, ν4, ν5, ν6, ν7, ν8]
          refine wpAnyH_take (i := 4) (v := .int .i64 (s.f)) rfl (by kernel_rfl) (by kernel_rfl) (by kernel_rfl) (fun _ _ _ h => h) (Or.inl ⟨by rfl, ?_⟩) hHeld ?_
          · intro w' hSw; subst hSw; have kx := y0; go_simp
          try simp only [ν1, ν2, ν3, ν4, ν5, ν6, ν7, ν8]
          refine wpAnyH_take (i := 5) (v := .slice (some ⟨b, off, none⟩) l.length cap) rfl (by kernel_rfl) (by kernel_rfl) (by kernel_rfl) (fun _ _ _ h => h) (Or.inl ⟨by rfl, ?_⟩) hHeld ?_
          · intro w' hSw; subst hSw; go_simp <;> omega
          try simp only [ν1, ν2, ν3, ν4, ν5, ν6, ν7, ν8]
          refine wpAnyH_take (i := 6) (v := .int .i64 ((k : Int))) rfl (by kernel_rfl) (by kernel_rfl) (by kernel_rfl) (fun _ _ _ h => h) (Or.inl ⟨by rfl, ?_⟩) hHeld ?_
          · intro w' hSw; subst hSw; go_simp <;> omega
          try simp only [ν1, ν2, ν3, ν4, ν5, ν6, ν7, ν8]
          refine wpAnyH_take (i := 7) (v := .pointer (some ⟨b, off + k * 2, none⟩)) rfl (by kernel_rfl) (by kernel_rfl) (by kernel_rfl) (fun _ _ _ h => h) (Or.inl ⟨by rfl, ?_⟩) hHeld ?_
          · intro w' hSw; subst hSw; go_simp <;> omega
          try simp only [ν1, ν2, ν3, ν4, ν5, ν6, ν7, ν8]
          refine wpAnyH_take (i := 8) (v := .pointer (some ⟨b, off + k * 2 + 1, none⟩)) rfl (by kernel_rfl) (by kernel_rfl) (by kernel_rfl) (fun _ _ _ h => h) (Or.inl ⟨by rfl, ?_⟩) hHeld ?_
          · intro w' hSw; subst hSw; go_simp <;> omega
          try simp only [ν1, ν2, ν3, ν4, ν5, ν6, ν7, ν8]
          refine wpAnyH_take (i := 9) (v := .int .i64 (s.t)) rfl (by kernel_rfl) (by kernel_rfl) (by kernel_rfl) (fun _ _ _ h => h) (Or.inl ⟨by rfl, ?_⟩) hHeld ?_
          · intro w' hSw; subst hSw; have kx := y1; go_simp
          try simp only [ν1, ν2, ν3, ν4, ν5, ν6, ν7, ν8]
          refine wpAnyH_take (i := 10) (v := .bool false) rfl (by kernel_rfl) (by kernel_rfl) (by kernel_rfl) (fun _ _ _ h => h) (Or.inl ⟨by rfl, ?_⟩) hHeld ?_
          · intro w' hSw; subst hSw; go_simp <;> omega
          try simp only [ν1, ν2, ν3, ν4, ν5, ν6, ν7, ν8]
          refine wpAnyH_take (i := 11) (v := .bool false) rfl (by kernel_rfl) (by kernel_rfl) (by kernel_rfl) (fun _ _ _ h => h) (Or.inl ⟨by rfl, ?_⟩) hHeld ?_
          · intro w' hSw; subst hSw; go_simp <;> omega
          try simp only [ν1, ν2, ν3, ν4, ν5, ν6, ν7, ν8]
          refine wpAnyH_take (i := 12) (v := .int .i64 ((k : Int))) rfl (by kernel_rfl) (by kernel_rfl) (by kernel_rfl) (fun _ _ _ h => h) (Or.inl ⟨by rfl, ?_⟩) hHeld ?_
          · intro w' hSw; subst hSw; go_simp <;> omega
          try simp only [ν1, ν2, ν3, ν4, ν5, ν6, ν7, ν8]
          refine wpAnyH_take (i := 13) (v := .bool false) rfl (by kernel_rfl) (by kernel_rfl) (by kernel_rfl) (fun _ _ _ h => h) (Or.inl ⟨by rfl, ?_⟩) hHeld ?_
          · intro w' hSw; subst hSw; go_simp <;> omega
          try simp only [ν1, ν2, ν3, ν4, ν5, ν6, ν7, ν8]
          refine wpAnyH_take (i := 14) (v := .bool false) rfl (by kernel_rfl) (by kernel_rfl) (by kernel_rfl) (fun _ _ _ h => h) (Or.inl ⟨by rfl, ?_⟩) hHeld ?_
          · intro w' hSw; subst hSw; go_simp <;> omega
          try simp only [ν1, ν2, ν3, ν4, ν5, ν6, ν7, ν8]
          refine wpAnyH_take (i := 15) (v := undef) rfl (by kernel_rfl) (by kernel_rfl) (by kernel_rfl) (fun _ _ _ h => h) (Or.inr ⟨by kernel_rfl, rfl⟩) hHeld ?_
          try simp only [ν1, ν2, ν3, ν4, ν5, ν6, ν7, ν8]
          refine wpAnyH_take (i := 16) (v := undef) rfl (by kernel_rfl) (by kernel_rfl) (by kernel_rfl) (fun _ _ _ h => h) (Or.inr ⟨by kernel_rfl, rfl⟩) hHeld ?_
          try simp only [ν1, ν2, ν3, ν4, ν5, ν6, ν7, ν8]
          refine wpAnyH_take (i := 17) (v := undef) rfl (by kernel_rfl) (by kernel_rfl) (by kernel_rfl) (fun _ _ _ h => h) (Or.inr ⟨by kernel_rfl, rfl⟩) hHeld ?_
          try simp only [ν1, ν2, ν3, ν4, ν5, ν6, ν7, ν8]
          refine wpAnyH_take (i := 18) (v := undef) rfl (by kernel_rfl) (by kernel_rfl) (by kernel_rfl) (fun _ _ _ h => h) (Or.inr ⟨by kernel_rfl, rfl⟩) hHeld ?_
          try simp only [ν1, ν2, ν3, ν4, ν5, ν6, ν7, ν8]
          refine wpAnyH_take (i := 19) (v := undef) rfl (by kernel_rfl) (by kernel_rfl) (by kernel_rfl) (fun _ _ _ h => h) (Or.inr ⟨by kernel_rfl, rfl⟩) hHeld ?_
          try simp only [ν1, ν2, ν3, ν4, ν5, ν6, ν7, ν8]
          refine wpAnyH_take (i := 20) (v := undef) rfl (by kernel_rfl) (by kernel_rfl) (by kernel_rfl) (fun _ _ _ h => h) (Or.inr ⟨by kernel_rfl, rfl⟩) hHeld ?_
          try simp only [ν1, ν2, ν3, ν4, ν5, ν6, ν7, ν8]
          refine wpAnyH_take (i := 21) (v := undef) rfl (by kernel_rfl) (by kernel_rfl) (by kernel_rfl) (fun _ _ _ h => h) (Or.inr ⟨by kernel_rfl, rfl⟩) hHeld ?_
          try simp only [ν1, ν2, ν3, ν4, ν5, ν6, ν7, ν8]
          refine wpAnyH_take (i := 22) (v := undef) rfl (by kernel_rfl) (by kernel_rfl) (by kernel_rfl) (fun _ _ _ h => h) (Or.inr ⟨by kernel_rfl, rfl⟩) hHeld ?_
          try simp only [ν1, ν2, ν3, ν4, ν5, ν6, ν7, ν8]
          refine wpAnyH_take (i := 23) (v := undef) rfl (by kernel_rfl) (by kernel_rfl) (by kernel_rfl) (fun _ _ _ h => h) (Or.inr ⟨by kernel_rfl, rfl⟩) hHeld ?_
          try simp only [ν1, ν2, ν3, ν4, ν5, ν6, ν7, ν8]
          refine wpAnyH_take (i := 24) (v := undef) rfl (by kernel_rfl) (by kernel_rfl) (by kernel_rfl) (fun _ _ _ h => h) (Or.inr ⟨by kernel_rfl, rfl⟩) hHeld ?_
          try simp only [ν1, ν2, ν3, ν4, ν5, ν6, ν7, ν8]
          refine wpAnyH_take (i := 25) (v := undef) rfl (by kernel_rfl) (by kernel_rfl) (by kernel_rfl) (fun _ _ _ h => h) (Or.inr ⟨by kernel_rfl, rfl⟩) hHeld ?_
          try simp only [ν1, ν2, ν3, ν4, ν5, ν6, ν7, ν8]
          refine wpAnyH_take (i := 26) (v := undef) rfl (by kernel_rfl) (by kernel_rfl) (by kernel_rfl) (fun _ _ _ h => h) (Or.inr ⟨by kernel_rfl, rfl⟩) hHeld ?_
          try simp only [ν1, ν2, ν3, ν4, ν5, ν6, ν7, ν8]
          refine wpAnyH_take (i := 27) (v := .bool false) rfl (by kernel_rfl) (by kernel_rfl) (by kernel_rfl) (fun _ _ _ h => h) (Or.inl ⟨by rfl, ?_⟩) hHeld ?_
          · intro w' hSw; subst hSw; go_simp <;> omega
          try simp only [ν1, ν2, ν3, ν4, ν5, ν6, ν7, ν8]
          refine wpAnyH_take (i := 28) (v := .bool false) rfl (by kernel_rfl) (by kernel_rfl) (by kernel_rfl) (fun _ _ _ h => h) (Or.inl ⟨by rfl, ?_⟩) hHeld ?_
          · intro w' hSw; subst hSw; go_simp <;> omega
          try simp only [ν1, ν2, ν3, ν4, ν5, ν6, ν7, ν8]
          refine wpAnyH_done (by kernel_rfl) ?_ _
          clear hHeld
          go_wp2_with fail
          go_roundw
          case rel => exact ⟨k + 1, by omega, by go_num, fun j hj => by
            by_cases e : j = k
            · subst e; rw [Ho.out]; simp [hft]; omega
            · exact Hyes.out j (by omega), Hdr.out⟩
          case measure => simp [intOf]; omega
        ·
          obtain ⟨wa, ewa⟩ : ∃ x, x = wo := ⟨_, rfl⟩
          subst ewa
          have y0 := h0
          have y1 := h1
          have Hdr := Lib.hid HB.out.drew
          clear h0 h1
          go_upto_region 4 with fail
          refine wp_region_held_drew (S := fun w' => w' = wa.drew) (by kernel_rfl) rfl (fun hHeld => ?_)
          refine wpAnyH_take (i := 0) (v := .slice (some ⟨b, off, none⟩) l.length cap) rfl (by kernel_rfl) (by kernel_rfl) (by kernel_rfl) (fun _ _ _ h => h) (Or.inl ⟨by rfl, ?_⟩) hHeld ?_
          · intro w' hSw; subst hSw; go_simp <;> omega
          try simp only [ν1, ν2, ν3, ν4, ν5, ν6, ν7, ν8]
          refine wpAnyH_take (i := 1) (v := .int .i64 ((k : Int))) rfl (by kernel_rfl) (by kernel_rfl) (by kernel_rfl) (fun _ _ _ h => h) (Or.inl ⟨by rfl, ?_⟩) hHeld ?_
          · intro w' hSw; subst hSw; go_simp <;> omega
          try simp only [ν1, ν2, ν3, ν4, ν5, ν6, ν7, ν8]
          refine wpAnyH_take (i := 2) (v := .pointer (some ⟨b, off + k * 2, none⟩)) rfl (by kernel_rfl) (by kernel_rfl) (by kernel_rfl) (fun _ _ _ h => h) (Or.inl ⟨by rfl, ?_⟩) hHeld ?_
          · intro w' hSw; subst hSw; go_simp <;> omega
          try simp only [ν1, ν2, ν3, ν4, ν5, ν6, ν7, ν8]
          refine wpAnyH_take (i := 3) (v := .pointer (some ⟨b, off + k * 2, none⟩)) rfl (by kernel_rfl) (by kernel_rfl) (by kernel_rfl) (fun _ _ _ h => h) (Or.inl ⟨by rfl, ?_⟩) hHeld ?_
          · intro w' hSw; subst hSw; go_simp <;> omega
          try simp only [ν1, ν2, ν3, ν4, ν5, ν6, ν7, ν8]
          refine wpAnyH_take (i := 4) (v := .int .i64 (s.f)) rfl (by kernel_rfl) (by kernel_rfl) (by kernel_rfl) (fun _ _ _ h => h) (Or.inl ⟨by rfl, ?_⟩) hHeld ?_
          · intro w' hSw; subst hSw; have kx := y0; go_simp
          try simp only [ν1, ν2, ν3, ν4, ν5, ν6, ν7, ν8]
          refine wpAnyH_take (i := 5) (v := .slice (some ⟨b, off, none⟩) l.length cap) rfl (by kernel_rfl) (by kernel_rfl) (by kernel_rfl) (fun _ _ _ h => h) (Or.inl ⟨by rfl, ?_⟩) hHeld ?_
          · intro w' hSw; subst hSw; go_simp <;> omega
          try simp only [ν1, ν2, ν3, ν4, ν5, ν6, ν7, ν8]
          refine wpAnyH_take (i := 6) (v := .int .i64 ((k : Int))) rfl (by kernel_rfl) (by kernel_rfl) (by kernel_rfl) (fun _ _ _ h => h) (Or.inl ⟨by rfl, ?_⟩) hHeld ?_
          · intro w' hSw; subst hSw; go_simp <;> omega
          try simp only [ν1, ν2, ν3, ν4, ν5, ν6, ν7, ν8]
          refine wpAnyH_take (i := 7) (v := .pointer (some ⟨b, off + k * 2, none⟩)) rfl (by kernel_rfl) (by kernel_rfl) (by kernel_rfl) (fun _ _ _ h => h) (Or.inl ⟨by rfl, ?_⟩) hHeld ?_
          · intro w' hSw; subst hSw; go_simp <;> omega
          try simp only [ν1, ν2, ν3, ν4, ν5, ν6, ν7, ν8]
          refine wpAnyH_take (i := 8) (v := .pointer (some ⟨b, off + k * 2 + 1, none⟩)) rfl (by kernel_rfl) (by kernel_rfl) (by kernel_rfl) (fun _ _ _ h => h) (Or.inl ⟨by rfl, ?_⟩) hHeld ?_
          · intro w' hSw; subst hSw; go_simp <;> omega
          try simp only [ν1, ν2, ν3, ν4, ν5, ν6, ν7, ν8]
          refine wpAnyH_take (i := 9) (v := .int .i64 (s.t)) rfl (by kernel_rfl) (by kernel_rfl) (by kernel_rfl) (fun _ _ _ h => h) (Or.inl ⟨by rfl, ?_⟩) hHeld ?_
          · intro w' hSw; subst hSw; have kx := y1; go_simp
          try simp only [ν1, ν2, ν3, ν4, ν5, ν6, ν7, ν8]
          refine wpAnyH_take (i := 10) (v := .bool true) rfl (by kernel_rfl) (by kernel_rfl) (by kernel_rfl) (fun _ _ _ h => h) (Or.inl ⟨by rfl, ?_⟩) hHeld ?_
          · intro w' hSw; subst hSw; go_simp <;> omega
          try simp only [ν1, ν2, ν3, ν4, ν5, ν6, ν7, ν8]
          refine wpAnyH_take (i := 11) (v := .bool true) rfl (by kernel_rfl) (by kernel_rfl) (by kernel_rfl) (fun _ _ _ h => h) (Or.inl ⟨by rfl, ?_⟩) hHeld ?_
          · intro w' hSw; subst hSw; go_simp <;> omega
          try simp only [ν1, ν2, ν3, ν4, ν5, ν6, ν7, ν8]
          refine wpAnyH_take (i := 12) (v := undef) rfl (by kernel_rfl) (by kernel_rfl) (by kernel_rfl) (fun _ _ _ h => h) (Or.inr ⟨by kernel_rfl, rfl⟩) hHeld ?_
          try simp only [ν1, ν2, ν3, ν4, ν5, ν6, ν7, ν8]
          refine wpAnyH_take (i := 13) (v := undef) rfl (by kernel_rfl) (by kernel_rfl) (by kernel_rfl) (fun _ _ _ h => h) (Or.inr ⟨by kernel_rfl, rfl⟩) hHeld ?_
          try simp only [ν1, ν2, ν3, ν4, ν5, ν6, ν7, ν8]
          refine wpAnyH_take (i := 14) (v := undef) rfl (by kernel_rfl) (by kernel_rfl) (by kernel_rfl) (fun _ _ _ h => h) (Or.inr ⟨by kernel_rfl, rfl⟩) hHeld ?_
          try simp only [ν1, ν2, ν3, ν4, ν5, ν6, ν7, ν8]
          refine wpAnyH_take (i := 15) (v := undef) rfl (by kernel_rfl) (by kernel_rfl) (by kernel_rfl) (fun _ _ _ h => h) (Or.inr ⟨by kernel_rfl, rfl⟩) hHeld ?_
          try simp only [ν1, ν2, ν3, ν4, ν5, ν6, ν7, ν8]
          refine wpAnyH_take (i := 16) (v := undef) rfl (by kernel_rfl) (by kernel_rfl) (by kernel_rfl) (fun _ _ _ h => h) (Or.inr ⟨by kernel_rfl, rfl⟩) hHeld ?_
          try simp only [ν1, ν2, ν3, ν4, ν5, ν6, ν7, ν8]
          refine wpAnyH_take (i := 17) (v := undef) rfl (by kernel_rfl) (by kernel_rfl) (by kernel_rfl) (fun _ _ _ h => h) (Or.inr ⟨by kernel_rfl, rfl⟩) hHeld ?_
          try simp only [ν1, ν2, ν3, ν4, ν5, ν6, ν7, ν8]
          refine wpAnyH_take (i := 18) (v := undef) rfl (by kernel_rfl) (by kernel_rfl) (by kernel_rfl) (fun _ _ _ h => h) (Or.inr ⟨by kernel_rfl, rfl⟩) hHeld ?_
          try simp only [ν1, ν2, ν3, ν4, ν5, ν6, ν7, ν8]
          refine wpAnyH_take (i := 19) (v := undef) rfl (by kernel_rfl) (by kernel_rfl) (by kernel_rfl) (fun _ _ _ h => h) (Or.inr ⟨by kernel_rfl, rfl⟩) hHeld ?_
          try simp only [ν1, ν2, ν3, ν4, ν5, ν6, ν7, ν8]
          refine wpAnyH_take (i := 20) (v := undef) rfl (by kernel_rfl) (by kernel_rfl) (by kernel_rfl) (fun _ _ _ h => h) (Or.inr ⟨by kernel_rfl, rfl⟩) hHeld ?_
          try simp only [ν1, ν2, ν3, ν4, ν5, ν6, ν7, ν8]
          refine wpAnyH_take (i := 21) (v := undef) rfl (by kernel_rfl) (by kernel_rfl) (by kernel_rfl) (fun _ _ _ h => h) (Or.inr ⟨by kernel_rfl, rfl⟩) hHeld ?_
          try simp only [ν1, ν2, ν3, ν4, ν5, ν6, ν7, ν8]
          refine wpAnyH_take (i := 22) (v := undef) rfl (by kernel_rfl) (by kernel_rfl) (by kernel_rfl) (fun _ _ _ h => h) (Or.inr ⟨by kernel_rfl, rfl⟩) hHeld ?_
          try simp only [ν1, ν2, ν3, ν4, ν5, ν6, ν7, ν8]
          refine wpAnyH_take (i := 23) (v := undef) rfl (by kernel_rfl) (by kernel_rfl) (by kernel_rfl) (fun _ _ _ h => h) (Or.inr ⟨by kernel_rfl, rfl⟩) hHeld ?_
          try simp only [ν1, ν2, ν3, ν4, ν5, ν6, ν7, ν8]
          refine wpAnyH_take (i := 24) (v := undef) rfl (by kernel_rfl) (by kernel_rfl) (by kernel_rfl) (fun _ _ _ h => h) (Or.inr ⟨by kernel_rfl, rfl⟩) hHeld ?_
          try simp only [ν1, ν2, ν3, ν4, ν5, ν6, ν7, ν8]
          refine wpAnyH_take (i := 25) (v := undef) rfl (by kernel_rfl) (by kernel_rfl) (by kernel_rfl) (fun _ _ _ h => h) (Or.inr ⟨by kernel_rfl, rfl⟩) hHeld ?_
          try simp only [ν1, ν2, ν3, ν4, ν5, ν6, ν7, ν8]
          refine wpAnyH_take (i := 26) (v := undef) rfl (by kernel_rfl) (by kernel_rfl) (by kernel_rfl) (fun _ _ _ h => h) (Or.inr ⟨by kernel_rfl, rfl⟩) hHeld ?_
          try simp only [ν1, ν2, ν3, ν4, ν5, ν6, ν7, ν8]
          refine wpAnyH_take (i := 27) (v := undef) rfl (by kernel_rfl) (by kernel_rfl) (by kernel_rfl) (fun _ _ _ h => h) (Or.inr ⟨by kernel_rfl, rfl⟩) hHeld ?_
          try simp only [ν1, ν2, ν3, ν4, ν5, ν6, ν7, ν8]
          refine wpAnyH_take (i := 28) (v := .bool true) rfl (by kernel_rfl) (by kernel_rfl) (by kernel_rfl) (fun _ _ _ h => h) (Or.inl ⟨by rfl, ?_⟩) hHeld ?_
          · intro w' hSw; subst hSw; go_simp <;> omega
          try simp only [ν1, ν2, ν3, ν4, ν5, ν6, ν7, ν8]
          refine wpAnyH_done (by kernel_rfl) ?_ _
          clear hHeld
          go_wp2_with fail
          exact fin (hR _ Hdr.out) (show Value.bool _ = Value.bool _ by rw [setB_false hlt (by rw [Ho.out]; rw [decide_eq_false (by omega)]; rfl)])
    · go_wp2_with fail
      exact fin (hR _ hB) (show Value.bool _ = Value.bool _ by rw [setB_true (fun j hj => Hyes.out j (by omega))])

set_option maxRecDepth 100000 in
theorem spanCheck_any (lo hi : Nat) (l : List Sp) (v : Value) (w : World) (hv : Spans lo hi w v l) (hhi : hi ≤ w.heap.size) (R : Ending → World → Prop) (hR : ∀ w', Below w.heap.size w w' → R (.returned (.int .i64 (if setB l then 0 else 30))) w') :
    Calls Try.prog 67 #[v] w R := by
  have HR := Lib.hid hR
  have Hv := Lib.hid hv
  obtain ⟨ao, cap, rfl, -, -, -, -⟩ := hv.form
  clear hR hv
  go_enter Try.func67, Try.ntmps67
  go_wp2_with fail
  refine set_any lo hi l _ w Hv.out hhi _ (fun w1 hB => ?_)
  have hr := HR.out w1 hB
  clear hB
  cases hs : setB l
  · rw [hs] at hr
    go_wp2_with fail
    first | exact hr | exact fin hr rfl
  · rw [hs] at hr
    go_wp2_with fail
    first | exact hr | exact fin hr rfl
set_option maxRecDepth 100000 in
theorem entity_any (n : Int) (w : World) (R : Ending → World → Prop) (hR : R (.returned (.bool (decide (0 ≤ n) && decide (n < 9007199254740992)))) w) : Calls Try.prog 56 #[.int .i64 n] w R := by
  by_cases h1 : 0 ≤ n
  · by_cases h2 : n < 9007199254740992
    · rw [decide_eq_true h1, decide_eq_true h2] at hR
      go_enter Try.func56, Try.ntmps56
      go_wp2_with fail
      first | exact hR | exact fin hR rfl
    · rw [decide_eq_true h1, decide_eq_false h2] at hR
      go_enter Try.func56, Try.ntmps56
      go_wp2_with fail
      first | exact hR | exact fin hR rfl
  · rw [decide_eq_false h1] at hR
    go_enter Try.func56, Try.ntmps56
    go_wp2_with fail
    first | exact hR | exact fin hR rfl

set_option maxRecDepth 100000 in
set_option maxHeartbeats 2000000 in
theorem dmay_any (e a : Int) (v : V) (w : World) (hs : v.s.length ≤ 9223372036854775807) (R : Ending → World → Prop) (hR : ∀ w', Below w.heap.size w w' → R (.returned (.bool (mayD e a v))) w') :
    Calls Try.prog 88 #[.agg #[.int .i64 e, .int .i64 a, .int .i64 v.kind, .int .i64 v.n, .string ⟨v.s.toArray⟩, .int .i64 1, .bool false, .int .i64 0, .int .i64 1]] w R := by
  have hB1 := alloc_below w (.cells #[.int .i64 e, .int .i64 a, .int .i64 v.kind, .int .i64 v.n, .string ⟨v.s.toArray⟩, .int .i64 1, .bool false, .int .i64 0, .int .i64 1] 74)
  have hb := Blk.new w [.int .i64 e, .int .i64 a, .int .i64 v.kind, .int .i64 v.n, .string ⟨v.s.toArray⟩, .int .i64 1, .bool false, .int .i64 0, .int .i64 1] 74 rfl
  by_cases e0 : 0 ≤ e
  case neg =>
    have e : mayD e a v = false := by unfold mayD; rw [decide_eq_false e0]; simp
    rw [e] at hR
    have HR := Lib.hid hR
    clear e hR
    go_enter Try.func88, Try.ntmps88
    go_upto_region 1 with fail
    generalize w.alloc (.cells #[.int .i64 e, .int .i64 a, .int .i64 v.kind, .int .i64 v.n, .string ⟨v.s.toArray⟩, .int .i64 1, .bool false, .int .i64 0, .int .i64 1] 74) = w1 at *
    obtain ⟨y0, y1, y2, y3, y4, y5, y6, y7, y8⟩ := hb.cells.c9
    go_wp2_with fail
    first | exact HR.out w1 hB1 | exact fin (HR.out w1 hB1) rfl
  by_cases e1 : e < 9007199254740992
  case neg =>
    have e : mayD e a v = false := by unfold mayD; rw [decide_eq_true e0, decide_eq_false e1]; simp
    rw [e] at hR
    have HR := Lib.hid hR
    clear e hR
    go_enter Try.func88, Try.ntmps88
    go_upto_region 1 with fail
    generalize w.alloc (.cells #[.int .i64 e, .int .i64 a, .int .i64 v.kind, .int .i64 v.n, .string ⟨v.s.toArray⟩, .int .i64 1, .bool false, .int .i64 0, .int .i64 1] 74) = w1 at *
    obtain ⟨y0, y1, y2, y3, y4, y5, y6, y7, y8⟩ := hb.cells.c9
    go_wp2_with fail
    first | exact HR.out w1 hB1 | exact fin (HR.out w1 hB1) rfl
  by_cases a0 : 0 ≤ a
  case neg =>
    have e : mayD e a v = false := by unfold mayD; rw [decide_eq_true e0, decide_eq_true e1, decide_eq_false a0]; simp
    rw [e] at hR
    have HR := Lib.hid hR
    clear e hR
    go_enter Try.func88, Try.ntmps88
    go_upto_region 1 with fail
    generalize w.alloc (.cells #[.int .i64 e, .int .i64 a, .int .i64 v.kind, .int .i64 v.n, .string ⟨v.s.toArray⟩, .int .i64 1, .bool false, .int .i64 0, .int .i64 1] 74) = w1 at *
    obtain ⟨y0, y1, y2, y3, y4, y5, y6, y7, y8⟩ := hb.cells.c9
    go_wp2_with fail
    first | exact HR.out w1 hB1 | exact fin (HR.out w1 hB1) rfl
  by_cases a1 : a < 9007199254740992
  case neg =>
    have e : mayD e a v = false := by unfold mayD; rw [decide_eq_true e0, decide_eq_true e1, decide_eq_true a0, decide_eq_false a1]; simp
    rw [e] at hR
    have HR := Lib.hid hR
    clear e hR
    go_enter Try.func88, Try.ntmps88
    go_upto_region 1 with fail
    generalize w.alloc (.cells #[.int .i64 e, .int .i64 a, .int .i64 v.kind, .int .i64 v.n, .string ⟨v.s.toArray⟩, .int .i64 1, .bool false, .int .i64 0, .int .i64 1] 74) = w1 at *
    obtain ⟨y0, y1, y2, y3, y4, y5, y6, y7, y8⟩ := hb.cells.c9
    go_wp2_with fail
    first | exact HR.out w1 hB1 | exact fin (HR.out w1 hB1) rfl
  have e : mayD e a v = mayB v := by unfold mayD; rw [decide_eq_true e0, decide_eq_true e1, decide_eq_true a0, decide_eq_true a1]; simp
  rw [e] at hR
  have HR := Lib.hid hR
  clear e hR
  go_enter Try.func88, Try.ntmps88
  go_upto_region 1 with fail
  generalize w.alloc (.cells #[.int .i64 e, .int .i64 a, .int .i64 v.kind, .int .i64 v.n, .string ⟨v.s.toArray⟩, .int .i64 1, .bool false, .int .i64 0, .int .i64 1] 74) = w1 at *
  obtain ⟨y0, y1, y2, y3, y4, y5, y6, y7, y8⟩ := hb.cells.c9
  go_wp2_with fail
  refine Check_any v w1 hs _ (fun w2 hB2 => ?_)
  have hr := HR.out w2 (hB1.trans (hB2.mono hB1.size))
  obtain ⟨z0, z1, z2, z3, z4, z5, z6, z7, z8⟩ := (hb.below hB2 hb.lt).cells.c9
  clear hB1 hB2 hb y0 y1 y2 y3 y4 y5 y6 y7 y8
  cases hm : mayB v
  · rw [hm] at hr
    go_wp2_with fail
    first | exact hr | exact fin hr rfl
  · rw [hm] at hr
    go_wp2_with fail
    first | exact hr | exact fin hr rfl

set_option maxRecDepth 100000 in
set_option maxHeartbeats 2000000 in
theorem dMay_any (e a : Int) (v : V) (w : World) (hs : v.s.length ≤ 9223372036854775807) (R : Ending → World → Prop) (hR : ∀ w', Below w.heap.size w w' → R (.returned (.bool (mayD e a v))) w') :
    Calls Try.prog 29 #[.agg #[.int .i64 e, .int .i64 a, .int .i64 v.kind, .int .i64 v.n, .string ⟨v.s.toArray⟩, .int .i64 1, .bool false, .int .i64 0, .int .i64 1]] w R := by
  have hB1 := alloc_below w (.cells #[.int .i64 e, .int .i64 a, .int .i64 v.kind, .int .i64 v.n, .string ⟨v.s.toArray⟩, .int .i64 1, .bool false, .int .i64 0, .int .i64 1] 74)
  have hb := Blk.new w [.int .i64 e, .int .i64 a, .int .i64 v.kind, .int .i64 v.n, .string ⟨v.s.toArray⟩, .int .i64 1, .bool false, .int .i64 0, .int .i64 1] 74 rfl
  by_cases e0 : 0 ≤ e
  case neg =>
    have e : mayD e a v = false := by unfold mayD; rw [decide_eq_false e0]; simp
    rw [e] at hR
    have HR := Lib.hid hR
    clear e hR
    go_enter Try.func29, Try.ntmps29
    go_upto_region 1 with fail
    generalize w.alloc (.cells #[.int .i64 e, .int .i64 a, .int .i64 v.kind, .int .i64 v.n, .string ⟨v.s.toArray⟩, .int .i64 1, .bool false, .int .i64 0, .int .i64 1] 74) = w1 at *
    obtain ⟨y0, y1, y2, y3, y4, y5, y6, y7, y8⟩ := hb.cells.c9
    go_wp2_with fail
    refine entity_any _ _ _ ?_
    rw [decide_eq_false (by omega), Bool.false_and]
    go_wp2_with fail
    first | exact HR.out w1 hB1 | exact fin (HR.out w1 hB1) rfl
  by_cases e1 : e < 9007199254740992
  case neg =>
    have e : mayD e a v = false := by unfold mayD; rw [decide_eq_true e0, decide_eq_false e1]; simp
    rw [e] at hR
    have HR := Lib.hid hR
    clear e hR
    go_enter Try.func29, Try.ntmps29
    go_upto_region 1 with fail
    generalize w.alloc (.cells #[.int .i64 e, .int .i64 a, .int .i64 v.kind, .int .i64 v.n, .string ⟨v.s.toArray⟩, .int .i64 1, .bool false, .int .i64 0, .int .i64 1] 74) = w1 at *
    obtain ⟨y0, y1, y2, y3, y4, y5, y6, y7, y8⟩ := hb.cells.c9
    go_wp2_with fail
    refine entity_any _ _ _ ?_
    rw [decide_eq_true e0, decide_eq_false (by omega), Bool.and_false]
    go_wp2_with fail
    first | exact HR.out w1 hB1 | exact fin (HR.out w1 hB1) rfl
  by_cases a0 : 0 ≤ a
  case neg =>
    have e : mayD e a v = false := by unfold mayD; rw [decide_eq_true e0, decide_eq_true e1, decide_eq_false a0]; simp
    rw [e] at hR
    have HR := Lib.hid hR
    clear e hR
    go_enter Try.func29, Try.ntmps29
    go_upto_region 1 with fail
    generalize w.alloc (.cells #[.int .i64 e, .int .i64 a, .int .i64 v.kind, .int .i64 v.n, .string ⟨v.s.toArray⟩, .int .i64 1, .bool false, .int .i64 0, .int .i64 1] 74) = w1 at *
    obtain ⟨y0, y1, y2, y3, y4, y5, y6, y7, y8⟩ := hb.cells.c9
    go_wp2_with fail
    refine entity_any _ _ _ ?_
    rw [decide_eq_true e0, decide_eq_true e1, Bool.and_true]
    go_wp2_with fail
    refine entity_any _ _ _ ?_
    rw [decide_eq_false (by omega), Bool.false_and]
    go_wp2_with fail
    first | exact HR.out w1 hB1 | exact fin (HR.out w1 hB1) rfl
  by_cases a1 : a < 9007199254740992
  case neg =>
    have e : mayD e a v = false := by unfold mayD; rw [decide_eq_true e0, decide_eq_true e1, decide_eq_true a0, decide_eq_false a1]; simp
    rw [e] at hR
    have HR := Lib.hid hR
    clear e hR
    go_enter Try.func29, Try.ntmps29
    go_upto_region 1 with fail
    generalize w.alloc (.cells #[.int .i64 e, .int .i64 a, .int .i64 v.kind, .int .i64 v.n, .string ⟨v.s.toArray⟩, .int .i64 1, .bool false, .int .i64 0, .int .i64 1] 74) = w1 at *
    obtain ⟨y0, y1, y2, y3, y4, y5, y6, y7, y8⟩ := hb.cells.c9
    go_wp2_with fail
    refine entity_any _ _ _ ?_
    rw [decide_eq_true e0, decide_eq_true e1, Bool.and_true]
    go_wp2_with fail
    refine entity_any _ _ _ ?_
    rw [decide_eq_true a0, decide_eq_false (by omega), Bool.and_false]
    go_wp2_with fail
    first | exact HR.out w1 hB1 | exact fin (HR.out w1 hB1) rfl
  have e : mayD e a v = mayB v := by unfold mayD; rw [decide_eq_true e0, decide_eq_true e1, decide_eq_true a0, decide_eq_true a1]; simp
  rw [e] at hR
  have HR := Lib.hid hR
  clear e hR
  go_enter Try.func29, Try.ntmps29
  go_upto_region 1 with fail
  generalize w.alloc (.cells #[.int .i64 e, .int .i64 a, .int .i64 v.kind, .int .i64 v.n, .string ⟨v.s.toArray⟩, .int .i64 1, .bool false, .int .i64 0, .int .i64 1] 74) = w1 at *
  obtain ⟨y0, y1, y2, y3, y4, y5, y6, y7, y8⟩ := hb.cells.c9
  go_wp2_with fail
  refine entity_any _ _ _ ?_
  rw [decide_eq_true e0, decide_eq_true e1, Bool.and_true]
  go_wp2_with fail
  refine entity_any _ _ _ ?_
  rw [decide_eq_true a0, decide_eq_true a1, Bool.and_true]
  go_wp2_with fail
  refine May_any v w1 hs _ (fun w2 hB2 => ?_)
  have hr := HR.out w2 (hB1.trans (hB2.mono hB1.size))
  obtain ⟨z0, z1, z2, z3, z4, z5, z6, z7, z8⟩ := (hb.below hB2 hb.lt).cells.c9
  clear hB1 hB2 hb y0 y1 y2 y3 y4 y5 y6 y7 y8
  cases hm : mayB v
  · rw [hm] at hr
    go_wp2_with fail
    first | exact hr | exact fin hr rfl
  · rw [hm] at hr
    go_wp2_with fail
    first | exact hr | exact fin hr rfl

set_option maxRecDepth 100000 in
theorem dCheck_any (e a : Int) (v : V) (w : World) (hs : v.s.length ≤ 9223372036854775807) (R : Ending → World → Prop) (hR : ∀ w', Below w.heap.size w w' → R (.returned (.int .i64 (if mayD e a v then 0 else 40))) w') :
    Calls Try.prog 66 #[.agg #[.int .i64 e, .int .i64 a, .int .i64 v.kind, .int .i64 v.n, .string ⟨v.s.toArray⟩, .int .i64 1, .bool false, .int .i64 0, .int .i64 1]] w R := by
  have HR := Lib.hid hR
  have hB1 := alloc_below w (.cells #[.int .i64 e, .int .i64 a, .int .i64 v.kind, .int .i64 v.n, .string ⟨v.s.toArray⟩, .int .i64 1, .bool false, .int .i64 0, .int .i64 1] 74)
  have hb := Blk.new w [.int .i64 e, .int .i64 a, .int .i64 v.kind, .int .i64 v.n, .string ⟨v.s.toArray⟩, .int .i64 1, .bool false, .int .i64 0, .int .i64 1] 74 rfl
  clear hR
  go_enter Try.func66, Try.ntmps66
  go_upto_region 1 with fail
  generalize w.alloc (.cells #[.int .i64 e, .int .i64 a, .int .i64 v.kind, .int .i64 v.n, .string ⟨v.s.toArray⟩, .int .i64 1, .bool false, .int .i64 0, .int .i64 1] 74) = w1 at *
  obtain ⟨y0, y1, y2, y3, y4, y5, y6, y7, y8⟩ := hb.cells.c9
  go_wp2_with fail
  refine dmay_any e a v w1 hs _ (fun w2 hB2 => ?_)
  have hr := HR.out w2 (hB1.trans (hB2.mono hB1.size))
  clear hB1 hB2 hb y0 y1 y2 y3 y4 y5 y6 y7 y8
  cases hm : mayD e a v
  · rw [hm] at hr
    go_wp2_with fail
    first | exact hr | exact fin hr rfl
  · rw [hm] at hr
    go_wp2_with fail
    first | exact hr | exact fin hr rfl
end Go.Proofs.Yticbhfmpnmolcaa
end

/- How great a pattern is: the document's weigh and Great. (Printed by pula.py.) -/
section
set_option linter.unusedVariables false
set_option linter.unusedSimpArgs false
namespace Go.Proofs.Yticbhfmpnmolcaa
open Go.RowKit
set_option linter.unusedVariables false
set_option linter.unusedSimpArgs false
theorem item_cells {w : World} {b o : Nat} {x0 x1 x2 x3 x4 x5 x6 x7 x8 x9 x10 : Value} (h : CellsAt w b o [x0, x1, x2, x3, x4, x5, x6, x7, x8, x9, x10]) :
    w.cell? ⟨b, o, none⟩ = some x0 ∧ w.cell? ⟨b, o + 1, none⟩ = some x1 ∧ w.cell? ⟨b, o + 2, none⟩ = some x2 ∧ w.cell? ⟨b, o + 3, none⟩ = some x3 ∧ w.cell? ⟨b, o + 4, none⟩ = some x4 ∧ w.cell? ⟨b, o + 5, none⟩ = some x5 ∧ w.cell? ⟨b, o + 6, none⟩ = some x6 ∧ w.cell? ⟨b, o + 7, none⟩ = some x7 ∧ w.cell? ⟨b, o + 8, none⟩ = some x8 ∧ w.cell? ⟨b, o + 9, none⟩ = some x9 ∧ w.cell? ⟨b, o + 10, none⟩ = some x10 :=
  ⟨by simpa using h 0 x0 rfl, h 1 x1 rfl, h 2 x2 rfl, h 3 x3 rfl, h 4 x4 rfl, h 5 x5 rfl, h 6 x6 rfl, h 7 x7 rfl, h 8 x8 rfl, h 9 x9 rfl, h 10 x10 rfl⟩
theorem wrapIn {x : Int} (h1 : -9223372036854775808 ≤ x) (h2 : x ≤ 9223372036854775807) : IntKind.i64.wrap x = x := by
  simp [IntKind.wrap, IntKind.bits, IntKind.signed]; omega
theorem weighGo_stop (f : Nat) : ∀ (l : List It) (n : Int), 200 < n → l.foldl (weighStep f) n = n
  | [], n, _ => rfl
  | x :: r, n, h => by
    rw [List.foldl_cons, show weighStep f n x = n by unfold weighStep; rw [if_neg (by omega)]]
    exact weighGo_stop f r n h
theorem weighGo_take (f : Nat) {l : List It} {k : Nat} (hk : k < l.length) : (l.take (k + 1)).foldl (weighStep f) 0 = weighStep f ((l.take k).foldl (weighStep f) 0) l[k] := by
  rw [List.take_succ_eq_append_getElem hk, List.foldl_append]; rfl
theorem weigh_bd : ∀ (f d lo hi : Nat) (w : World) (v : Value) (l : List It), Its d lo hi w v l → weighF f l ≤ 1000 + f * 20000000000000 := by
  intro f
  induction f with
  | zero => intro d lo hi w v l _; show (1000 : Int) ≤ _; omega
  | succ f ih =>
    intro d lo hi w v l h
    rw [weighF_eq]
    have hx : ∀ x ∈ l, x.attr.length ≤ 281474976710656 ∧ x.dflt.s.length ≤ 281474976710656 ∧ weighF f x.sub ≤ 1000 + f * 20000000000000 := by
      intro x hx
      obtain ⟨k, hk, rfl⟩ := List.getElem_of_mem hx
      obtain ⟨_, _, _, _, _, _, h5⟩ := h
      obtain ⟨b, off, _, _, _, k3⟩ := h5 (List.ne_nil_of_length_pos (by omega))
      obtain ⟨cs, _, _, c3⟩ := k3 k hk
      cases d with
      | zero => exact c3.elim
      | succ d =>
        obtain ⟨hl, sv, _, hs⟩ := c3
        exact ⟨hl.1, hl.2, ih d lo hi w sv _ hs⟩
    clear h
    have key : ∀ (l : List It) (n : Int), (∀ x ∈ l, x.attr.length ≤ 281474976710656 ∧ x.dflt.s.length ≤ 281474976710656 ∧ weighF f x.sub ≤ 1000 + f * 20000000000000) → n ≤ 1000 + (f + 1 : Nat) * 20000000000000 → l.foldl (weighStep f) n ≤ 1000 + (f + 1 : Nat) * 20000000000000 := by
      intro l
      induction l with
      | nil => intro n _ h; exact h
      | cons x r ihl =>
        intro n hx h
        rw [List.foldl_cons]
        refine ihl _ (fun y hy => hx y (List.mem_cons_of_mem _ hy)) ?_
        obtain ⟨h1, h2, h3⟩ := hx x (List.mem_cons_self ..)
        unfold weighStep
        split <;> omega
    exact key l 0 hx (by omega)
set_option maxRecDepth 100000 in
set_option maxHeartbeats 8000000 in
theorem weigh_any : ∀ (f d lo hi : Nat) (l : List It) (v : Value) (w : World) (dp : Int) (hdp : 0 ≤ dp) (hf : dp + f = 61) (hv : Its d lo hi w v l) (hhi : hi ≤ w.heap.size) (R : Ending → World → Prop)
    (hR : ∀ w', Below w.heap.size w w' → R (.returned (.int .i64 (weighF f l))) w'), Calls Try.prog 11 #[v, .int .i64 dp] w R := by
  intro f
  induction f with
  | zero =>
    intro d lo hi l v w dp hdp hf hv hhi R hR
    have hr := hR w (Below.refl _ _)
    have hd : (60 : Int) < dp := by omega
    obtain ⟨ao, cv, rfl, -, -, -, -⟩ := hv.form
    clear hR hv hf
    go_enter Try.func11, Try.ntmps11
    go_wp2_with fail
    first | exact hr | exact fin hr rfl
  | succ f ih =>
    intro d lo hi l v w dp hdp hf hv hhi R hR
    have HR := Lib.hid hR
    have hl63 := hv.len
    have hf60 : f ≤ 60 := by omega
    have hbd := weigh_bd (f + 1) d lo hi w v l hv
    have hd : ¬ (60 : Int) < dp := by omega
    have Hv := Lib.hid hv
    obtain ⟨ao, cv, rfl, -, -, -, -⟩ := hv.form
    clear hR hv
    go_enter Try.func11, Try.ntmps11
    go_wp2_with fail
    go_loopw [5, 6] (fun t5 t6 wr => ∃ (k : Nat) (n : Int), k ≤ l.length ∧ Hid (n = (l.take k).foldl (weighStep f) 0) ∧ t6 = .int .i64 k ∧ t5 = .int .i64 n ∧ Below w.heap.size w wr) (fun _ t6 _ => l.length - (intOf t6).toNat)
    case atStart => exact ⟨0, 0, Nat.zero_le _, Lib.hid (by simp), rfl, rfl, Below.refl _ _⟩
    case round =>
      obtain ⟨k, n, hk, Hn, rfl, rfl, hB⟩ := hrel
      obtain ⟨wo, ewo⟩ : ∃ x, x = wr := ⟨_, rfl⟩
      subst ewo
      have HB := Lib.hid hB
      have hz := hB.size
      have hn0 : 0 ≤ n := by
        have h := weighF_nn (f + 1) (l.take k)
        rw [weighF_eq, ← Hn.out] at h; exact h
      have kk0 : (0 : Int) ≤ (k : Int) := by omega
      clear hB
      by_cases hlt : k < l.length
      · have kkl : (k : Int) < (l.length : Int) := by omega
        by_cases hn : n ≤ 200
        · have Hx := Lib.hid (Sl.below Hv.out (itE_loc d) HB.out hhi)
          have Hhi : Hid (hi ≤ wo.heap.size) := Lib.hid (by omega)
          obtain ⟨ao', cap', e', -, -, -, hc⟩ := Hx.out.form
          injection e' with e1 e2 e3
          subst e1 e3
          obtain ⟨b, off, rfl, hb1, hb2, hcc⟩ := hc k hlt
          obtain ⟨cs, -, hcs, hel⟩ := hcc k hlt
          have hstep := weighGo_take f hlt
          rw [← Hn.out] at hstep
          generalize l[k] = x at *
          cases d with
          | zero => exact hel.elim
          | succ d =>
            obtain ⟨hlens, sv, rfl, hsub⟩ := hel
            have Hsub := Lib.hid hsub
            have hbx := weigh_bd f d lo hi wo sv x.sub hsub
            have hq0 := weighF_nn f x.sub
            obtain ⟨q, hq⟩ : ∃ q, q = weighF f x.sub := ⟨_, rfl⟩
            have Hq := Lib.hid hq
            rw [← hq] at hbx hq0
            have hws : weighStep f n x = n + 1 + (x.attr.length / 50 : Nat) + (x.dflt.s.length / 50 : Nat) + weighF f x.sub := by unfold weighStep; rw [if_pos hn]
            rw [hws, ← hq] at hstep
            obtain ⟨hl1, hl2⟩ := hlens
            obtain ⟨la, hla⟩ : ∃ la, la = x.attr.length := ⟨_, rfl⟩
            obtain ⟨ls, hls⟩ : ∃ ls, ls = x.dflt.s.length := ⟨_, rfl⟩
            obtain ⟨qa, hqa⟩ : ∃ qa, qa = la / 50 := ⟨_, rfl⟩
            obtain ⟨qs, hqs⟩ : ∃ qs, qs = ls / 50 := ⟨_, rfl⟩
            rw [← hla, ← hls, ← hqa, ← hqs] at hstep
            rw [← hla] at hl1
            rw [← hls] at hl2
            have Hcs := Lib.hid hcs
            have Hbl : Hid (b < wo.heap.size) := Lib.hid (by omega)
            have Hstep := Lib.hid hstep
            clear hc hcc hcs hsub hq hstep hws e2 hb1 hb2 Hx
            go_upto_region 7 with fail
            refine wp_region_held_drew (S := fun w' => Below wo.heap.size wo w') (by kernel_rfl) (Below.refl _ _).drew (fun hHeld => ?_)
            refine wpAnyH_take (i := 0) (v := .int .i64 n) rfl (by kernel_rfl) (by kernel_rfl) (by kernel_rfl) (fun _ _ _ h => h) (Or.inl ⟨by rfl, ?_⟩) hHeld ?_
            · intro w' hSw; go_simp
            try simp only [ν1, ν2, ν3, ν4, ν5, ν6, ν7, ν8]
            refine wpAnyH_take (i := 1) (v := .int .i64 (n + 1)) rfl (by kernel_rfl) (by kernel_rfl) (by kernel_rfl) (fun _ _ _ h => h) (Or.inl ⟨by rfl, ?_⟩) hHeld ?_
            · intro w' hSw; go_simp; exact wrapIn (by omega) (by omega)
            try simp only [ν1, ν2, ν3, ν4, ν5, ν6, ν7, ν8]
            refine wpAnyH_take (i := 2) (v := .slice (some ⟨b, off, none⟩) l.length cv) rfl (by kernel_rfl) (by kernel_rfl) (by kernel_rfl) (fun _ _ _ h => h) (Or.inl ⟨by rfl, ?_⟩) hHeld ?_
            · intro w' hSw; go_simp
            try simp only [ν1, ν2, ν3, ν4, ν5, ν6, ν7, ν8]
            refine wpAnyH_take (i := 3) (v := .int .i64 ((k : Int))) rfl (by kernel_rfl) (by kernel_rfl) (by kernel_rfl) (fun _ _ _ h => h) (Or.inl ⟨by rfl, ?_⟩) hHeld ?_
            · intro w' hSw; go_simp
            try simp only [ν1, ν2, ν3, ν4, ν5, ν6, ν7, ν8]
            refine wpAnyH_take (i := 4) (v := .pointer (some ⟨b, off + k * 11, none⟩)) rfl (by kernel_rfl) (by kernel_rfl) (by kernel_rfl) (fun _ _ _ h => h) (Or.inl ⟨by rfl, ?_⟩) hHeld ?_
            · intro w' hSw; go_simp
            try simp only [ν1, ν2, ν3, ν4, ν5, ν6, ν7, ν8]
            refine wpAnyH_take (i := 5) (v := .pointer (some ⟨b, off + k * 11 + 1, none⟩)) rfl (by kernel_rfl) (by kernel_rfl) (by kernel_rfl) (fun _ _ _ h => h) (Or.inl ⟨by rfl, ?_⟩) hHeld ?_
            · intro w' hSw; go_simp
            try simp only [ν1, ν2, ν3, ν4, ν5, ν6, ν7, ν8]
            refine wpAnyH_take (i := 6) (v := .string ⟨x.attr.toArray⟩) rfl (by kernel_rfl) (by kernel_rfl) (by kernel_rfl) (fun _ _ _ h => h) (Or.inl ⟨by rfl, ?_⟩) hHeld ?_
            · intro w' hSw; have kc := (Hcs.out.agree (.below hSw (Nat.le_refl _)) (Nat.zero_le _) Hbl.out); obtain ⟨k0, k1, k2, k3, k4, k5, k6, k7, k8, k9, k10⟩ := item_cells kc; go_simp
            try simp only [ν1, ν2, ν3, ν4, ν5, ν6, ν7, ν8]
            refine wpAnyH_take (i := 7) (v := .int .i64 ((la : Int))) rfl (by kernel_rfl) (by kernel_rfl) (by kernel_rfl) (fun _ _ _ h => h) (Or.inl ⟨by rfl, ?_⟩) hHeld ?_
            · intro w' hSw; go_simp
            try simp only [ν1, ν2, ν3, ν4, ν5, ν6, ν7, ν8]
            refine wpAnyH_take (i := 8) (v := .int .i64 ((qa : Int))) rfl (by kernel_rfl) (by kernel_rfl) (by kernel_rfl) (fun _ _ _ h => h) (Or.inl ⟨by rfl, ?_⟩) hHeld ?_
            · intro w' hSw; go_simp; exact wrapIn (by omega) (by omega)
            try simp only [ν1, ν2, ν3, ν4, ν5, ν6, ν7, ν8]
            refine wpAnyH_take (i := 9) (v := .int .i64 (n + 1 + qa)) rfl (by kernel_rfl) (by kernel_rfl) (by kernel_rfl) (fun _ _ _ h => h) (Or.inl ⟨by rfl, ?_⟩) hHeld ?_
            · intro w' hSw; go_simp; exact wrapIn (by omega) (by omega)
            try simp only [ν1, ν2, ν3, ν4, ν5, ν6, ν7, ν8]
            refine wpAnyH_take (i := 10) (v := .slice (some ⟨b, off, none⟩) l.length cv) rfl (by kernel_rfl) (by kernel_rfl) (by kernel_rfl) (fun _ _ _ h => h) (Or.inl ⟨by rfl, ?_⟩) hHeld ?_
            · intro w' hSw; go_simp
            try simp only [ν1, ν2, ν3, ν4, ν5, ν6, ν7, ν8]
            refine wpAnyH_take (i := 11) (v := .int .i64 ((k : Int))) rfl (by kernel_rfl) (by kernel_rfl) (by kernel_rfl) (fun _ _ _ h => h) (Or.inl ⟨by rfl, ?_⟩) hHeld ?_
            · intro w' hSw; go_simp
            try simp only [ν1, ν2, ν3, ν4, ν5, ν6, ν7, ν8]
            refine wpAnyH_take (i := 12) (v := .pointer (some ⟨b, off + k * 11, none⟩)) rfl (by kernel_rfl) (by kernel_rfl) (by kernel_rfl) (fun _ _ _ h => h) (Or.inl ⟨by rfl, ?_⟩) hHeld ?_
            · intro w' hSw; go_simp
            try simp only [ν1, ν2, ν3, ν4, ν5, ν6, ν7, ν8]
            refine wpAnyH_take (i := 13) (v := .pointer (some ⟨b, off + k * 11 + 5, none⟩)) rfl (by kernel_rfl) (by kernel_rfl) (by kernel_rfl) (fun _ _ _ h => h) (Or.inl ⟨by rfl, ?_⟩) hHeld ?_
            · intro w' hSw; go_simp
            try simp only [ν1, ν2, ν3, ν4, ν5, ν6, ν7, ν8]
            refine wpAnyH_take (i := 14) (v := .pointer (some ⟨b, off + k * 11 + 7, none⟩)) rfl (by kernel_rfl) (by kernel_rfl) (by kernel_rfl) (fun _ _ _ h => h) (Or.inl ⟨by rfl, ?_⟩) hHeld ?_
            · intro w' hSw; go_simp
            try simp only [ν1, ν2, ν3, ν4, ν5, ν6, ν7, ν8]
            refine wpAnyH_take (i := 15) (v := .string ⟨x.dflt.s.toArray⟩) rfl (by kernel_rfl) (by kernel_rfl) (by kernel_rfl) (fun _ _ _ h => h) (Or.inl ⟨by rfl, ?_⟩) hHeld ?_
            · intro w' hSw; have kc := (Hcs.out.agree (.below hSw (Nat.le_refl _)) (Nat.zero_le _) Hbl.out); obtain ⟨k0, k1, k2, k3, k4, k5, k6, k7, k8, k9, k10⟩ := item_cells kc; go_simp
            try simp only [ν1, ν2, ν3, ν4, ν5, ν6, ν7, ν8]
            refine wpAnyH_take (i := 16) (v := .int .i64 ((ls : Int))) rfl (by kernel_rfl) (by kernel_rfl) (by kernel_rfl) (fun _ _ _ h => h) (Or.inl ⟨by rfl, ?_⟩) hHeld ?_
            · intro w' hSw; go_simp
            try simp only [ν1, ν2, ν3, ν4, ν5, ν6, ν7, ν8]
            refine wpAnyH_take (i := 17) (v := .int .i64 ((qs : Int))) rfl (by kernel_rfl) (by kernel_rfl) (by kernel_rfl) (fun _ _ _ h => h) (Or.inl ⟨by rfl, ?_⟩) hHeld ?_
            · intro w' hSw; go_simp; exact wrapIn (by omega) (by omega)
            try simp only [ν1, ν2, ν3, ν4, ν5, ν6, ν7, ν8]
            refine wpAnyH_take (i := 18) (v := .int .i64 (n + 1 + qa + qs)) rfl (by kernel_rfl) (by kernel_rfl) (by kernel_rfl) (fun _ _ _ h => h) (Or.inl ⟨by rfl, ?_⟩) hHeld ?_
            · intro w' hSw; go_simp; exact wrapIn (by omega) (by omega)
            try simp only [ν1, ν2, ν3, ν4, ν5, ν6, ν7, ν8]
            refine wpAnyH_take (i := 19) (v := .slice (some ⟨b, off, none⟩) l.length cv) rfl (by kernel_rfl) (by kernel_rfl) (by kernel_rfl) (fun _ _ _ h => h) (Or.inl ⟨by rfl, ?_⟩) hHeld ?_
            · intro w' hSw; go_simp
            try simp only [ν1, ν2, ν3, ν4, ν5, ν6, ν7, ν8]
            refine wpAnyH_take (i := 20) (v := .int .i64 ((k : Int))) rfl (by kernel_rfl) (by kernel_rfl) (by kernel_rfl) (fun _ _ _ h => h) (Or.inl ⟨by rfl, ?_⟩) hHeld ?_
            · intro w' hSw; go_simp
            try simp only [ν1, ν2, ν3, ν4, ν5, ν6, ν7, ν8]
            refine wpAnyH_take (i := 21) (v := .pointer (some ⟨b, off + k * 11, none⟩)) rfl (by kernel_rfl) (by kernel_rfl) (by kernel_rfl) (fun _ _ _ h => h) (Or.inl ⟨by rfl, ?_⟩) hHeld ?_
            · intro w' hSw; go_simp
            try simp only [ν1, ν2, ν3, ν4, ν5, ν6, ν7, ν8]
            refine wpAnyH_take (i := 22) (v := .pointer (some ⟨b, off + k * 11 + 9, none⟩)) rfl (by kernel_rfl) (by kernel_rfl) (by kernel_rfl) (fun _ _ _ h => h) (Or.inl ⟨by rfl, ?_⟩) hHeld ?_
            · intro w' hSw; go_simp
            try simp only [ν1, ν2, ν3, ν4, ν5, ν6, ν7, ν8]
            refine wpAnyH_take (i := 23) (v := sv) rfl (by kernel_rfl) (by kernel_rfl) (by kernel_rfl) (fun _ _ _ h => h) (Or.inl ⟨by rfl, ?_⟩) hHeld ?_
            · intro w' hSw; have kc := (Hcs.out.agree (.below hSw (Nat.le_refl _)) (Nat.zero_le _) Hbl.out); obtain ⟨k0, k1, k2, k3, k4, k5, k6, k7, k8, k9, k10⟩ := item_cells kc; go_simp
            try simp only [ν1, ν2, ν3, ν4, ν5, ν6, ν7, ν8]
            refine wpAnyH_take (i := 24) (v := .int .i64 dp) rfl (by kernel_rfl) (by kernel_rfl) (by kernel_rfl) (fun _ _ _ h => h) (Or.inl ⟨by rfl, ?_⟩) hHeld ?_
            · intro w' hSw; go_simp
            try simp only [ν1, ν2, ν3, ν4, ν5, ν6, ν7, ν8]
            refine wpAnyH_take (i := 25) (v := .int .i64 (dp + 1)) rfl (by kernel_rfl) (by kernel_rfl) (by kernel_rfl) (fun _ _ _ h => h) (Or.inl ⟨by rfl, ?_⟩) hHeld ?_
            · intro w' hSw; go_simp; exact wrapIn (by omega) (by omega)
            try simp only [ν1, ν2, ν3, ν4, ν5, ν6, ν7, ν8]
            refine wpAnyH_ready (rs := [26]) (by kernel_rfl) (by simp) ?_
            refine allCall (f := 11) (args := #[sv, .int .i64 (dp + 1)]) rfl (by kernel_rfl) (by kernel_rfl) ?_ AllReadyH.nil
            refine ih d lo hi x.sub sv wo.drew (dp + 1) (by omega) (by omega) (Sl.below Hsub.out (itE_loc d) (Below.refl _ _).drew Hhi.out) Hhi.out _ (fun w2 hB2 => ?_)
            have hB3 : Below wo.heap.size wo w2 := (Below.refl _ _).drew.trans hB2
            rw [← Hq.out]
            refine ⟨_, rfl, hB3, ?_⟩
            clear hHeld
            have hHeld := hB3
            try simp only [ν1, ν2, ν3, ν4, ν5, ν6, ν7, ν8]
            refine wpAnyH_take (i := 27) (v := .int .i64 (n + 1 + qa + qs + q)) rfl (by kernel_rfl) (by kernel_rfl) (by kernel_rfl) (fun _ _ _ h => h) (Or.inl ⟨by rfl, ?_⟩) hHeld ?_
            · intro w' hSw; go_simp; exact wrapIn (by omega) (by omega)
            try simp only [ν1, ν2, ν3, ν4, ν5, ν6, ν7, ν8]
            refine wpAnyH_take (i := 28) (v := .int .i64 (n + 1 + qa + qs + q)) rfl (by kernel_rfl) (by kernel_rfl) (by kernel_rfl) (fun _ _ _ h => h) (Or.inl ⟨by rfl, ?_⟩) hHeld ?_
            · intro w' hSw; go_simp
            try simp only [ν1, ν2, ν3, ν4, ν5, ν6, ν7, ν8]
            refine wpAnyH_done (by kernel_rfl) ?_ _
            go_wp2_with fail
            go_roundw
            case rel => exact ⟨k + 1, _, by omega, Lib.hid Hstep.out.symm, by go_num, rfl, HB.out.trans (hB3.mono HB.out.size)⟩
            case measure => simp [intOf]; omega
        · have hr := HR.out wo HB.out
          rw [weighF_eq, ← List.take_append_drop k l, List.foldl_append, ← Hn.out, weighGo_stop f _ n (by omega)] at hr
          go_wp2_with fail
          first | exact hr | exact fin hr rfl
      · obtain rfl : k = l.length := by omega
        have llt : ¬ ((l.length : Nat) : Int) < (l.length : Int) := by omega
        have hr := HR.out wo HB.out
        rw [weighF_eq, ← List.take_length (l := l), ← Hn.out] at hr
        clear hk
        go_wp2_with fail
        first | exact hr | exact fin hr rfl
def greatP (p : List It) : Bool := decide (200 < weighF 61 p)
set_option maxRecDepth 100000 in
set_option maxHeartbeats 1000000 in
theorem pGreat_any (d lo hi : Nat) (l : List It) (v : Value) (w : World) (hv : Its d lo hi w v l) (hhi : hi ≤ w.heap.size) (R : Ending → World → Prop)
    (hR : ∀ w', Below w.heap.size w w' → R (.returned (.int .i64 (if greatP l then 1 else 0))) w') : Calls Try.prog 5 #[v] w R := by
  have HR := Lib.hid hR
  have Hv := Lib.hid hv
  clear hR hv
  go_enter Try.func5, Try.ntmps5
  go_wp2_with fail
  refine weigh_any 61 d lo hi l v w 0 (by decide) (by decide) Hv.out hhi _ (fun w1 hB => ?_)
  have hr := HR.out w1 hB
  unfold greatP at hr
  by_cases h : 200 < weighF 61 l
  · rw [decide_eq_true h] at hr
    go_wp2_with fail
    first | exact hr | exact fin hr rfl
  · rw [decide_eq_false h] at hr
    go_wp2_with fail
    first | exact hr | exact fin hr rfl
end Go.Proofs.Yticbhfmpnmolcaa
end
