/- SchemaLess: the walk. -/
import Derived.Test.YtkcpanaojehgiaaLesP
import Derived.Test.YtkcpanaojehgiaaInsB
import Derived.Test.YtkcpanaojehgiaaSpnF
namespace Go.Proofs.Ytkcpanaojehgiaa
open Go.RowKit
set_option linter.unusedVariables false
set_option linter.unusedSimpArgs false

theorem addS_len (out : List Sp) (x y : Int) : (addS out x y).length ≤ out.length + 1 := by
  unfold addS
  split
  · rename_i s h
    split
    · rw [List.length_append, List.length_dropLast]; simp only [List.length_cons, List.length_nil]; omega
    · simp
  · simp
theorem ofGo_len (p : Int → Bool) : ∀ (e : List Int) (out : List Sp), (ofGo p out e).length ≤ out.length + e.length
  | [], out => by simp [ofGo]
  | [x], out => by simp [ofGo]
  | x :: y :: r, out => by
    rw [ofGo]
    have h1 := ofGo_len p (y :: r) (if p x then addS out x y else out)
    have h2 : (if p x then addS out x y else out).length ≤ out.length + 1 := by
      split
      · exact addS_len _ _ _
      · omega
    simp only [List.length_cons] at *
    omega
theorem bothL_len (a b : List Sp) : (bothL a b).length ≤ 2 * (a.length + b.length) := by
  unfold bothL
  have h1 := ofGo_len (fun t => inB a t && inB b t) (endsL (a ++ b)) []
  have h2 := endsTo_len (a ++ b) (2 * (a ++ b).length)
  rw [endsTo_all, List.length_append] at h2
  simp only [List.length_nil, Nat.zero_add] at h1
  omega
/-- One fact more, its spans where they lie. -/
theorem OwnFs.app1 {lo a b : Nat} {w : World} {v : Value} {xs : List Ft} (h : OwnFs lo w v xs) (y : Ft) (p : Option Addr) (n c : Nat) (hy : Spans a b w (.slice p n c) y.sp) (hb : b ≤ w.heap.size) (ha : ∀ k, v.ownBlock = some k → k < a ∨ b ≤ k) {m : Nat} (hm : m = w.heap.size) (hl : xs.length ≤ 1800000000000) (hlo : lo ≤ w.heap.size) :
    ∃ v' w', (Builtin.append_ #[29, 29] 29 #[v, .slice (some ⟨m, 0, none⟩) 1 1]).run Try.prog (w.alloc (.cells #[.int .i64 y.e, .int .i64 y.a, .int .i64 y.v.kind, .int .i64 y.v.n, .string ⟨y.v.s.toArray⟩, .slice p n c] 49)) = .ok v' w' ∧
      OwnFs lo w' v' (xs ++ [y]) ∧ Appended w v w' v' := by
  subst hm
  have hB := alloc_below w (.cells (FR.enc ⟨y, p, n, c⟩).toArray 49)
  obtain ⟨i0, hi, hz0, hz1, hz2⟩ := info_parts infoF
  have hc := CellsAt.newAt w (FR.enc ⟨y, p, n, c⟩) 49 rfl
  have hs : Src Try.prog 6 29 (.slice (some ⟨w.heap.size, 0, none⟩) 1 1) [(⟨y, p, n, c⟩ : FR)].length ([(⟨y, p, n, c⟩ : FR)].flatMap FR.enc) (w.alloc (.cells (FR.enc ⟨y, p, n, c⟩).toArray 49)) :=
    Src.ofSlice _ Try.underlying29 _ _ _ _ (by simp [FR.enc]) (fun j u hu => by rw [Addr.add_lit]; exact hc j u (by simpa using hu)) (fun u hu => by
      rw [List.flatMap_cons, List.flatMap_nil, List.append_nil] at hu
      exact FR.one _ u hu)
  obtain ⟨ps, rfl, ho, hsp⟩ := h
  obtain ⟨v', w', hr, ho', hap⟩ := Own.app (Own.kept ho hB) _ _ _ i0 _ 72 Try.underlying29 hi hz0 hz1 hz2 rfl hs (by simp only [List.length_map] at hl; simp only [List.length_cons, List.length_nil]; omega) (by omega) (Nat.le_trans hlo hB.size)
  have hap2 := (Appended.step v hB).trans hap
  refine ⟨v', w', hr, ⟨ps ++ [⟨y, p, n, c⟩], by simp, ho', fun q hq => ?_⟩, hap2⟩
  have key : ∀ {a b : Nat} {u : Value} {l : List Sp}, Spans a b w u l → b ≤ w.heap.size → (∀ k, v.ownBlock = some k → k < a ∨ b ≤ k) → ∃ a b, Spans a b w' u l ∧ b ≤ w'.heap.size ∧ ∀ k, v'.ownBlock = some k → k < a ∨ b ≤ k := by
    intro a b u l h1 h2 h3
    refine ⟨a, b, h1.agree Sp.loc (hap2.agree h2 h3), Nat.le_trans h2 hap2.grown.size, fun k hk => ?_⟩
    rcases hap2.moved with e | ⟨m, e, hm⟩
    · rw [e] at hk; exact h3 k hk
    · rw [e] at hk; injection hk with hk; omega
  rcases List.mem_append.1 hq with hq | hq
  · obtain ⟨a, b, h1, h2, h3⟩ := hsp q hq
    exact key h1 h2 h3
  · obtain rfl : q = ⟨y, p, n, c⟩ := by simpa using hq
    exact key hy hb ha
def blE (b : Bool) : List Value := [.bool b]
abbrev Bls := Sl (flat blE) 1
theorem Bls.loc : Loc (flat blE) := flat_loc _
set_option maxRecDepth 100000 in
set_option maxHeartbeats 8000000 in
theorem SchemaLess_any (lo hi l2 h2 l3 h3 : Nat) (l : List Ft) (v : Value) (gone : List Bool) (vg : Value) (inn : List Sp) (vi : Value) (w : World) (hv : Fts lo hi w v l) (hhi : hi ≤ w.heap.size) (hvg : Bls l2 h2 w vg gone) (hh2 : h2 ≤ w.heap.size) (hvi : Spans l3 h3 w vi inn) (hh3 : h3 ≤ w.heap.size)
    (hlen : l.length ≤ 1000000000) (hl : ∀ x ∈ l, x.v.s.length ≤ 9223372036854775807) (hs : ∀ x ∈ l, x.sp.length ≤ 100000000)
    (R : Ending → World → Prop) (hR : ∀ w', Below w.heap.size w w' → R (.returned (.bool true)) w') : Calls Try.prog 6 #[v, vg, vi] w R := by
  have HR := Lib.hid hR
  have Hv := Lib.hid hv
  have Hvg := Lib.hid hvg
  have Hvi := Lib.hid hvi
  have Hl := Lib.hid hl
  have Hs := Lib.hid hs
  obtain ⟨av, cv, rfl, -, -, -, -⟩ := hv.form
  obtain ⟨ag, cg, rfl, -, -, -, -⟩ := hvg.form
  obtain ⟨ai, ci, rfl, -, -, -, -⟩ := hvi.form
  have hgl := hvg.len
  have hil := hvi.len
  clear hR hv hl hs hvg hvi
  go_enter Try.func6, Try.ntmps6
  go_wp2_with fail
  refine alive_any w _ (fun wa hBa => ?_)
  have HBa := Lib.hid hBa
  have hza := hBa.size
  clear hBa
  go_wp2_with fail
  refine fGreat_any lo hi l _ wa (Sl.below Hv.out ftE_loc HBa.out hhi) (by omega) _ (fun wb hBb => ?_)
  have HBb := Lib.hid (HBa.out.trans (hBb.mono hza))
  have hzb := HBb.out.size
  clear hBb
  cases hg : greatB l
  case true =>
    have hr := HR.out wb HBb.out
    go_wp2_with fail
    first | exact hr | exact fin hr rfl
  clear hg
  by_cases hg1 : 1000 < gone.length
  case pos =>
    have hr := HR.out wb HBb.out
    have g1 : (1000 : Int) < (gone.length : Int) := by omega
    go_wp2_with fail
    first | exact hr | exact fin hr rfl
  have g1 : ¬ (1000 : Int) < (gone.length : Int) := by omega
  by_cases hg2 : 50 < inn.length
  case pos =>
    have hr := HR.out wb HBb.out
    have g2 : (50 : Int) < (inn.length : Int) := by omega
    go_wp2_with fail
    first | exact hr | exact fin hr rfl
  have g2 : ¬ (50 : Int) < (inn.length : Int) := by omega
  go_wp2_with fail
  refine Set_any l3 h3 inn _ wb (Sl.below Hvi.out Sp.loc HBb.out hh3) (by omega) _ (fun wc hBc => ?_)
  have HBc := Lib.hid (HBb.out.trans (hBc.mono hzb))
  have hzc := HBc.out.size
  clear hBc
  cases hset : setB inn
  case false =>
    have hr := HR.out wc HBc.out
    go_wp2_with fail
    first | exact hr | exact fin hr rfl
  have Hset := Lib.hid hset
  clear hset
  go_wp2_with fail
  refine Holds_any lo hi l _ wc (Sl.below Hv.out ftE_loc HBc.out hhi) (by omega) (by omega) Hl.out (fun x hx => by have := Hs.out x hx; omega) _ (fun wd hBd => ?_)
  have HBd := Lib.hid (HBc.out.trans (hBd.mono hzc))
  have hzd := HBd.out.size
  clear hBd
  by_cases hh : holdsC l = 0
  case neg =>
    have hr := HR.out wd HBd.out
    have g3 : (holdsC l != 0) = true := by simp [hh]
    generalize holdsC l = h at *
    clear hh
    go_wp2_with fail
    first | exact hr | exact fin hr rfl
  have Hh : Hid (holdsC l = 0) := Lib.hid hh
  rw [hh]
  clear hh
  go_wp2_with fail
  go_loopw [9, 10] (fun t9 t10 wr => ∃ (k : Nat) (m : List Ft), k ≤ l.length ∧ t10 = .int .i64 k ∧ Less (l.take k) m ∧ (∀ y ∈ m, y.sp.length ≤ 1000000000) ∧ OwnFs wd.heap.size wr t9 m ∧ Below wd.heap.size wd wr) (fun _ t10 _ => l.length - (intOf t10).toNat)
  case atStart => exact ⟨0, [], Nat.zero_le _, rfl, Less.nil, (fun y hy => by cases hy), OwnFs.nil _ _, Below.refl _ _⟩
  case round =>
    obtain ⟨k, m, hk, rfl, hls, hsp, ho, hB⟩ := hrel
    obtain ⟨wo, ewo⟩ : ∃ x, x = wr := ⟨_, rfl⟩
    subst ewo
    have Hls := Lib.hid hls
    have Hsp := Lib.hid hsp
    have Ho := Lib.hid ho
    have HBo := Lib.hid hB
    have HB := Lib.hid (HBd.out.trans (hB.mono hzd))
    have hzo := hB.size
    have kk0 : (0 : Int) ≤ (k : Int) := by omega
    have hml : m.length ≤ 1000000000 := by have h1 := hls.len; rw [List.length_take] at h1; omega
    obtain ⟨po, co, hpo⟩ := ho.slice
    clear hls hsp ho hB
    by_cases hlt : k < l.length
    · have kkl : (k : Int) < (l.length : Int) := by omega
      obtain ⟨ao', cap', e', -, -, -, hc⟩ := (Sl.below Hv.out ftE_loc HB.out hhi).form
      injection e' with e1 e2 e3
      subst e1 e3
      obtain ⟨b, off, rfl, hb1, hb2, hcc⟩ := hc k hlt
      obtain ⟨cs, -, hcs, sv, rfl, hsv⟩ := hcc k hlt
      obtain ⟨sa, sc, rfl, -, -, -, -⟩ := hsv.form
      have Hsv := Lib.hid hsv
      have Htk := Lib.hid (List.take_succ_eq_append_getElem hlt)
      have hxs := Hs.out _ (List.getElem_mem hlt)
      obtain ⟨x0, x1, x2, x3, x4, x5⟩ := hcs.f6
      have hslx := hsv.len
      clear hcc hc hcs hsv
      generalize l[k] = x at *
      go_upto_region 12 with fail
      have hBa := alloc_below wo (.cells #[.int .i64 x.e, .int .i64 x.a, .int .i64 x.v.kind, .int .i64 x.v.n, .string ⟨x.v.s.toArray⟩, .slice sa x.sp.length sc] 49)
      have hba := Blk.new wo [.int .i64 x.e, .int .i64 x.a, .int .i64 x.v.kind, .int .i64 x.v.n, .string ⟨x.v.s.toArray⟩, .slice sa x.sp.length sc] 49 rfl
      generalize wo.alloc (.cells #[.int .i64 x.e, .int .i64 x.a, .int .i64 x.v.kind, .int .i64 x.v.n, .string ⟨x.v.s.toArray⟩, .slice sa x.sp.length sc] 49) = wA at *
      have HBA := Lib.hid hBa
      have HbA := Lib.hid hba
      have hzA := hBa.size
      have hlA := hba.lt
      clear x0 x1 x2 x3 x4 x5
      obtain ⟨q0, q1, q2, q3, q4, q5⟩ := hba.cells.f6
      simp only [Nat.zero_add] at q1 q2 q3 q4 q5
      clear hBa hba
      by_cases ha10 : x.a < 10
      · have c1 : ¬ (10 : Int) ≤ x.a := by omega
        obtain ⟨v3, w3, hr3, ho3, ha3⟩ := (Ho.out.kept HBA.out).app1 x sa x.sp.length sc ((Sl.below Hsv.out Sp.loc HBA.out (by omega)).mono Sp.loc (Nat.le_refl _) (Nat.le_refl _)) (by omega) (fun q e => .inr (by have := (Ho.out.lt q e).1; omega)) rfl (by omega) (by omega)
        have HO3 := Lib.hid ho3
        have HB3 := Lib.hid ((HBo.out.trans (HBA.out.mono hzo)).trans (ha3.below (B := wd.heap.size) (by omega) (fun q e => (Ho.out.lt q e).1)))
        clear ho3 ha3
        subst hpo
        go_wp2_with (at_builtin; refine AtApp.of ?_)
        refine AtApp.go hr3 rfl rfl rfl rfl ?_
        go_wp2_with fail
        go_roundw
        case rel => exact ⟨k + 1, m ++ [x], by omega, by go_num, by rw [Htk.out]; exact Hls.out.snoc (CutF.refl x), (fun y hy => by
          rcases List.mem_append.1 hy with hy | hy
          · exact Hsp.out y hy
          · obtain rfl : y = x := by simpa using hy
            omega), HO3.out, HB3.out⟩
        case measure => simp [intOf]; omega
      · have c1 : (10 : Int) ≤ x.a := by omega
        have c2 : ¬ x.a < 10 := by omega
        have h10 : Hid (10 ≤ x.a) := Lib.hid c1
        go_wp2_with fail
        refine both_any 0 wA.heap.size x.sp inn _ _ wA ((Sl.below Hsv.out Sp.loc HBA.out (by omega)).mono Sp.loc (Nat.zero_le _) (by omega)) ((Sl.below Hvi.out Sp.loc (HB.out.trans (HBA.out.mono (by omega))) hh3).mono Sp.loc (Nat.zero_le _) (by omega)) (Nat.le_refl _) (by omega) (by omega) _ (fun wB v3 hBB hoB => ?_)
        have hbl := bothL_len x.sp inn
        have hbs := bothL_set x.sp inn
        have Hbs := Lib.hid hbs
        obtain ⟨p3, c3, rfl⟩ := Own.slice hoB
        have hspB : Spans wA.heap.size wB.heap.size wB (.slice p3 (bothL x.sp inn).length c3) (bothL x.sp inn) := Sl.ofOwn (fun _ => rfl) hoB
        have HspB := Lib.hid hspB
        have hzB := hBB.size
        have HBB := Lib.hid (HBA.out.trans (hBB.mono hzA))
        have hbB := HbA.out.below hBB hlA
        have HbB := Lib.hid hbB
        obtain ⟨q0, q1, q2, q3, q4, q5⟩ := hbB.cells.f6
        simp only [Nat.zero_add] at q1 q2 q3 q4 q5
        have f5 := hbB.free 5
        have Hne : Hid (bothL x.sp inn ≠ [] → CutF x { x with sp := bothL x.sp inn }) := Lib.hid (fun hne => ⟨rfl, rfl, rfl, .inr ⟨h10.out, Hbs.out.1, hne⟩, fun t ht => (Hbs.out.2 t ht).1⟩)
        clear hBB hoB hspB hbB hbs
        generalize bothL x.sp inn = B at *
        have hBX : Below wo.heap.size wo (wB.setCell ⟨wo.heap.size, 5, none⟩ (.slice p3 B.length c3)) := HBB.out.setCell (p := ⟨wo.heap.size, 5, none⟩) (Nat.le_refl _) _
        have HBX := Lib.hid hBX
        have HbX := Lib.hid (HbB.out.set 5 (.slice p3 B.length c3))
        have HspX : Hid (Spans wA.heap.size wB.heap.size (wB.setCell ⟨wo.heap.size, 5, none⟩ (.slice p3 B.length c3)) (.slice p3 B.length c3) B) := Lib.hid (Sl.agree HspB.out Sp.loc (Agree.setCell _ (.inl hlA) _))
        have hzX : (wB.setCell ⟨wo.heap.size, 5, none⟩ (.slice p3 B.length c3)).heap.size = wB.heap.size := by simp
        have HzX : Hid ((wB.setCell ⟨wo.heap.size, 5, none⟩ (.slice p3 B.length c3)).heap.size = wB.heap.size) := Lib.hid hzX
        clear hBX hzX
        go_upto_region 14 with fail
        have hzX := Nat.le_of_eq HzX.out.symm
        have hbX : Blk (wB.setCell ⟨wo.heap.size, 5, none⟩ (.slice p3 B.length c3)) wo.heap.size [.int .i64 x.e, .int .i64 x.a, .int .i64 x.v.kind, .int .i64 x.v.n, .string ⟨x.v.s.toArray⟩, .slice p3 B.length c3] 49 := HbX.out
        clear HbX HzX q0 q1 q2 q3 q4 q5 f5
        generalize wB.setCell ⟨wo.heap.size, 5, none⟩ (.slice p3 B.length c3) = wX at *
        have hzXo : wo.heap.size ≤ wX.heap.size := HBX.out.size
        obtain ⟨q0, q1, q2, q3, q4, q5⟩ := hbX.cells.f6
        simp only [Nat.zero_add] at q1 q2 q3 q4 q5
        clear hbX
        by_cases hB0 : B.length = 0
        · have c5 : ¬ (0 : Int) < (B.length : Int) := by omega
          clear hB0
          subst hpo
          go_wp2_with fail
          go_roundw
          case rel => exact ⟨k + 1, m, by omega, by go_num, by rw [Htk.out]; exact Hls.out.skip h10.out, Hsp.out, Ho.out.kept HBX.out, HBo.out.trans (HBX.out.mono hzo)⟩
          case measure => simp [intOf]; omega
        have c5 : (0 : Int) < (B.length : Int) := by omega
        have Hcut := Lib.hid (Hne.out (by intro e; rw [e] at hB0; exact hB0 rfl))
        clear hB0
        by_cases hgk : gone.length ≤ k
        · have c4 : (gone.length : Int) ≤ (k : Int) := by omega
          obtain ⟨v3, w3, hr3, ho3, ha3⟩ := (Ho.out.kept HBX.out).app1 { x with sp := B } p3 B.length c3 HspX.out (by omega) (fun q e => .inl (by have := (Ho.out.lt q e).2; omega)) rfl (by omega) (by omega)
          have HO3 := Lib.hid ho3
          have HB3 := Lib.hid ((HBo.out.trans (HBX.out.mono hzo)).trans (ha3.below (B := wd.heap.size) (by omega) (fun q e => (Ho.out.lt q e).1)))
          clear ho3 ha3
          subst hpo
          go_wp2_with (at_builtin; refine AtApp.of ?_)
          refine AtApp.go hr3 rfl rfl rfl rfl ?_
          go_wp2_with fail
          go_roundw
          case rel => exact ⟨k + 1, m ++ [{ x with sp := B }], by omega, by go_num, by rw [Htk.out]; exact Hls.out.snoc Hcut.out, (fun y hy => by
            rcases List.mem_append.1 hy with hy | hy
            · exact Hsp.out y hy
            · obtain rfl : y = { x with sp := B } := by simpa using hy
              show B.length ≤ _
              omega), HO3.out, HB3.out⟩
          case measure => simp [intOf]; omega
        · have c4 : ¬ (gone.length : Int) ≤ (k : Int) := by omega
          obtain ⟨ao', cap', e', -, -, -, hc⟩ := (Sl.below Hvg.out Bls.loc (HB.out.trans (HBX.out.mono (by omega))) hh2).form
          injection e' with e1 e2 e3
          subst e1 e3
          obtain ⟨bg, og, rfl, hg3, hg4, hcc⟩ := hc k (by omega)
          obtain ⟨cs, -, hcs, rfl⟩ := hcc k (by omega)
          have z0 := hcs.c1
          rw [Nat.mul_one] at z0
          clear hcc hc hcs
          cases hgv : gone[k]'(by omega)
          · rw [hgv] at z0
            clear hgv
            obtain ⟨v3, w3, hr3, ho3, ha3⟩ := (Ho.out.kept HBX.out).app1 { x with sp := B } p3 B.length c3 HspX.out (by omega) (fun q e => .inl (by have := (Ho.out.lt q e).2; omega)) rfl (by omega) (by omega)
            have HO3 := Lib.hid ho3
            have HB3 := Lib.hid ((HBo.out.trans (HBX.out.mono hzo)).trans (ha3.below (B := wd.heap.size) (by omega) (fun q e => (Ho.out.lt q e).1)))
            clear ho3 ha3
            subst hpo
            go_wp2_with (at_builtin; refine AtApp.of ?_)
            refine AtApp.go hr3 rfl rfl rfl rfl ?_
            go_wp2_with fail
            go_roundw
            case rel => exact ⟨k + 1, m ++ [{ x with sp := B }], by omega, by go_num, by rw [Htk.out]; exact Hls.out.snoc Hcut.out, (fun y hy => by
              rcases List.mem_append.1 hy with hy | hy
              · exact Hsp.out y hy
              · obtain rfl : y = { x with sp := B } := by simpa using hy
                show B.length ≤ _
                omega), HO3.out, HB3.out⟩
            case measure => simp [intOf]; omega
          · rw [hgv] at z0
            clear hgv
            subst hpo
            go_wp2_with fail
            go_roundw
            case rel => exact ⟨k + 1, m, by omega, by go_num, by rw [Htk.out]; exact Hls.out.skip h10.out, Hsp.out, Ho.out.kept HBX.out, HBo.out.trans (HBX.out.mono hzo)⟩
            case measure => simp [intOf]; omega
    · obtain rfl : k = l.length := by omega
      have hl1 := Hls.out
      rw [List.take_length] at hl1
      have Hm0 := Lib.hid (hl1.holds Hh.out)
      have Hmem := Lib.hid hl1.mem
      clear hl1
      subst hpo
      have llt : ¬ ((l.length : Nat) : Int) < (l.length : Int) := by omega
      go_wp2_with fail
      refine Holds_any 0 wo.heap.size m _ wo Ho.out.fts (Nat.le_refl _) (by omega) (fun y hy => by
        obtain ⟨x, hx, hc⟩ := Hmem.out y hy
        rw [hc.v]; exact Hl.out x hx) (fun y hy => by have := Hsp.out y hy; omega) _ (fun we hBe => ?_)
      have hr := HR.out we (HB.out.trans (hBe.mono (by omega)))
      rw [Hm0.out]
      clear hBe
      go_wp2_with fail
      first | exact hr | exact fin hr rfl
end Go.Proofs.Ytkcpanaojehgiaa
