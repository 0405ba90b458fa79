/- The document's Holds. (Printed by hlds.py.) -/
import Derived.Test.YtkcpanaojehgiaaHldS1
import Derived.Test.YtkcpanaojehgiaaHldS2
import Derived.Test.YtkcpanaojehgiaaHldS3
import Derived.Test.YtkcpanaojehgiaaHldS4
import Derived.Test.YtkcpanaojehgiaaHldS5
import Derived.Test.YtkcpanaojehgiaaHldS6
namespace Go.Proofs.Ytkcpanaojehgiaa
open Go.RowKit
set_option linter.unusedVariables false
set_option linter.unusedSimpArgs false

theorem wp_onRet {P : Program} {c : Code} {K : Act → World → Prop} {Q : Exit → Act → World → Prop} {a : Act} {w : World} (h : Code.wp P c (Exit.then K (onRet (fun a w => Q .ret a w))) a w) : Code.wp P c (Exit.then K Q) a w :=
  wp_mono h (fun e a w h => by cases e <;> first | exact h | exact h.elim)
theorem ret_tmp {P : Program} {fn : Func} {R : Ending → World → Prop} {a : Act} {w : World} {u : Tmp} {v : Value} (h : fn.results = #[.tmp u]) (hu : a.tmps.getD u undef = v) (hd : a.defers = []) (hR : R (.returned v) w) : bodyPost P fn R .ret a w := by
  refine bodyPost_ret (v := v) ?_ hd hR
  subst hu
  unfold results
  simp [h]
set_option maxRecDepth 100000 in
set_option maxHeartbeats 16000000 in
theorem refHolds_any (lo hi : Nat) (l : List Ft) (v : Value) (w : World) (hv : Fts lo hi w v l) (hhi : hi ≤ w.heap.size) (hlen : l.length ≤ 2000000000000) (hl : ∀ x ∈ l, x.v.s.length ≤ 9223372036854775807) (hs : ∀ x ∈ l, x.sp.length ≤ 1000000000) (R : Ending → World → Prop)
    (hR : ∀ w', Below w.heap.size w w' → R (.returned (.int .i64 (holdsR l))) w') : Calls Try.prog 22 #[v] w R := by
  have HR := Lib.hid hR
  have Hv := Lib.hid hv
  have Hl := Lib.hid hl
  have Hs := Lib.hid hs
  obtain ⟨av, cv, rfl, -, -, -, -⟩ := hv.form
  clear hR hv hl hs
  go_enter Try.func22, Try.ntmps22
  go_wp2_with fail
  refine refOf_any lo hi l _ w Hv.out hhi hlen Hl.out _ (fun we v1 hBe ho1 => ?_)
  have HBe := Lib.hid hBe
  have hze := hBe.size
  have Ho1 := Lib.hid ho1
  obtain ⟨p1, c1, rfl⟩ := Own.slice ho1
  clear hBe ho1
  by_cases he : ofErr l = 0
  case neg =>
    have hr := HR.out we HBe.out
    unfold holdsR at hr
    rw [if_pos he] at hr
    have g1 : (ofErr l != 0) = true := by simp [he]
    generalize ofErr l = er at *
    generalize (ofAttrs l).length = m at *
    clear he
    go_wp2_with fail
    first | exact hr | exact fin hr rfl
  have H2 := HR.out
  unfold holdsR at H2
  rw [if_neg (by rw [he]; simp)] at H2
  have Ho := Ho1.out
  unfold ofAttrs at Ho
  rw [if_pos he] at Ho
  rw [show ofAttrs l = attrsOf l by unfold ofAttrs; rw [if_pos he], he]
  have hal : (attrsOf l).length ≤ 2000000000007 := by have := attrsOf_count l; omega
  have HO := Lib.hid Ho
  have HR2 := Lib.hid H2
  clear he H2 Ho HR Ho1
  generalize attrsOf l = A at *
  go_wp2_with fail
  go_loopw [5] (fun t5 wr => ∃ r : Nat, r ≤ 6 ∧ t5 = .int .i64 (71 + (r : Int)) ∧ (∀ q, q < r → rowB l A q = false) ∧ Below we.heap.size we wr) (fun t5 _ => 77 - (intOf t5).toNat)
  case atStart => exact ⟨0, Nat.zero_le _, rfl, fun q h => absurd h (Nat.not_lt_zero _), Below.refl _ _⟩
  case round =>
    obtain ⟨r, hr6, rfl, hpre, hBo⟩ := hrel
    obtain ⟨wo, ewo⟩ : ∃ x, x = wr := ⟨_, rfl⟩
    subst ewo
    have Hpre := Lib.hid hpre
    have HBo := Lib.hid hBo
    have hzo := hBo.size
    clear hpre hBo
    have hrr : r = 0 ∨ r = 1 ∨ r = 2 ∨ r = 3 ∨ r = 4 ∨ r = 5 ∨ r = 6 := by omega
    rcases hrr with rfl | rfl | rfl | rfl | rfl | rfl | rfl
    · rw [show (71 + ((0 : Nat) : Int)) = 71 from rfl]
      go_upto_block 1 with fail
      refine wp_onRet ?_
      refine holdsRow71 lo hi l _ _ A _ _ w we wo Hv.out hhi hlen Hs.out hal HBe.out HO.out HBo.out _ _ _ _ _ _ _ _ _ _ _ _ _ _ _ _ _ _ _ _ _ _ _ _ _ _ _ _ _ _ _ _ _ _ _ _ _ _ _ _ _ _ _ _ _ _ _ _ _ _ _ _ _ _ _ _ _ _ _ _ _ _ _ _ _ _ _ _ _ _ _ _ _ _ _ _ _ _ _ _ _ _ _ _ _ _ _ _ _ _ _ _ _ _ _ _ _ _ _ _ _ _ _ _ _ _ _ _ _ _ _ _ _ _ _ _ _ _ _ _ _ _ _ _ _ _ _ _ _ _ _ _ _ _ _ _ _ _ _ _ _ _ _ _ _ _ _ _ _ _ _ _ _ _ _ _ _ _ _ _ _ _ _ _ _ _ _ _ _ _ _ _ _ _ _ _ _ _ _ _ ?_ ?_
      · intro w' hno hB' z2 z6 z7 z8 z9 z10 z11 z12 z13 z26 z27 z28 z29 z30 z31 z32 z33 z34 z35 z36 z37 z38 z39 z40 z41 z42 z43 z44 z45 z46 z47 z48 z49 z50 z51 z52 z53 z54 z55 z56 z57 z58 z59 z60 z61 z62 z63 z64 z65 z66 z67 z68 z69 z70 z71 z72 z73 z74 z75 z76 z77 z78 z79 z80 z81 z82 z83 z84 z85 z86 z87 z88 z89 z90 z91 z92 z93 z94 z95 z96 z97 z98 z99 z100 z101 z102 z103 z104 z105 z106 z107 z108 z109 z110 z111 z112 z113 z114 z115 z116 z117 z118 z119 z120 z121 z122 z123 z124 z125 z126 z127 z128 z129 z130 z131 z132 z133 z134 z135 z136 z137 z138 z139 z140 z141 z142 z143 z144 z145 z146 z147 z148 z149 z150 z151 z152 z153 z154 z155 z156 z157 z158 z159 z160 z161 z162 z163 z164 z165 z166 z167 z168 z169 z170 z171 z172 z173 z174 z175 z176 z177 z178 z179 z180
        have Hpost : Hid (∀ q, q < 1 → rowB l A q = false) := Lib.hid (fun q hq => by
          by_cases e : q = 0
          · subst e
            exact hno
          · exact Hpre.out q (by omega))
        have HB' := Lib.hid hB'
        clear hno hB'
        go_wp2_with fail
        go_roundw
        case rel => exact ⟨1, by omega, rfl, Hpost.out, HB'.out⟩
        case measure => simp [intOf]
      · intro a w' hit hB' h2 hd
        have hr := HR2.out w' (HBe.out.trans (hB'.mono hze))
        rw [show rowR l A = 71 from rowR_at (r := 0) (by omega) Hpre.out hit] at hr
        exact ret_tmp rfl h2 hd hr
    · rw [show (71 + ((1 : Nat) : Int)) = 72 from rfl]
      go_upto_block 1 with fail
      refine wp_onRet ?_
      refine holdsRow72 lo hi l _ _ A _ _ w we wo Hv.out hhi hlen Hs.out hal HBe.out HO.out HBo.out _ _ _ _ _ _ _ _ _ _ _ _ _ _ _ _ _ _ _ _ _ _ _ _ _ _ _ _ _ _ _ _ _ _ _ _ _ _ _ _ _ _ _ _ _ _ _ _ _ _ _ _ _ _ _ _ _ _ _ _ _ _ _ _ _ _ _ _ _ _ _ _ _ _ _ _ _ _ _ _ _ _ _ _ _ _ _ _ _ _ _ _ _ _ _ _ _ _ _ _ _ _ _ _ _ _ _ _ _ _ _ _ _ _ _ _ _ _ _ _ _ _ _ _ _ _ _ _ _ _ _ _ _ _ _ _ _ _ _ _ _ _ _ _ _ _ _ _ _ _ _ _ _ _ _ _ _ _ _ _ _ _ _ _ _ _ _ _ _ _ _ _ _ _ _ _ _ _ _ _ ?_ ?_
      · intro w' hno hB' z2 z6 z7 z8 z9 z10 z11 z12 z13 z26 z27 z28 z29 z30 z31 z32 z33 z34 z35 z36 z37 z38 z39 z40 z41 z42 z43 z44 z45 z46 z47 z48 z49 z50 z51 z52 z53 z54 z55 z56 z57 z58 z59 z60 z61 z62 z63 z64 z65 z66 z67 z68 z69 z70 z71 z72 z73 z74 z75 z76 z77 z78 z79 z80 z81 z82 z83 z84 z85 z86 z87 z88 z89 z90 z91 z92 z93 z94 z95 z96 z97 z98 z99 z100 z101 z102 z103 z104 z105 z106 z107 z108 z109 z110 z111 z112 z113 z114 z115 z116 z117 z118 z119 z120 z121 z122 z123 z124 z125 z126 z127 z128 z129 z130 z131 z132 z133 z134 z135 z136 z137 z138 z139 z140 z141 z142 z143 z144 z145 z146 z147 z148 z149 z150 z151 z152 z153 z154 z155 z156 z157 z158 z159 z160 z161 z162 z163 z164 z165 z166 z167 z168 z169 z170 z171 z172 z173 z174 z175 z176 z177 z178 z179 z180
        have Hpost : Hid (∀ q, q < 2 → rowB l A q = false) := Lib.hid (fun q hq => by
          by_cases e : q = 1
          · subst e
            exact hno
          · exact Hpre.out q (by omega))
        have HB' := Lib.hid hB'
        clear hno hB'
        go_wp2_with fail
        go_roundw
        case rel => exact ⟨2, by omega, rfl, Hpost.out, HB'.out⟩
        case measure => simp [intOf]
      · intro a w' hit hB' h2 hd
        have hr := HR2.out w' (HBe.out.trans (hB'.mono hze))
        rw [show rowR l A = 72 from rowR_at (r := 1) (by omega) Hpre.out hit] at hr
        exact ret_tmp rfl h2 hd hr
    · rw [show (71 + ((2 : Nat) : Int)) = 73 from rfl]
      go_upto_block 1 with fail
      refine wp_onRet ?_
      refine holdsRow73 lo hi l _ _ A _ _ w we wo Hv.out hhi hlen Hs.out hal HBe.out HO.out HBo.out _ _ _ _ _ _ _ _ _ _ _ _ _ _ _ _ _ _ _ _ _ _ _ _ _ _ _ _ _ _ _ _ _ _ _ _ _ _ _ _ _ _ _ _ _ _ _ _ _ _ _ _ _ _ _ _ _ _ _ _ _ _ _ _ _ _ _ _ _ _ _ _ _ _ _ _ _ _ _ _ _ _ _ _ _ _ _ _ _ _ _ _ _ _ _ _ _ _ _ _ _ _ _ _ _ _ _ _ _ _ _ _ _ _ _ _ _ _ _ _ _ _ _ _ _ _ _ _ _ _ _ _ _ _ _ _ _ _ _ _ _ _ _ _ _ _ _ _ _ _ _ _ _ _ _ _ _ _ _ _ _ _ _ _ _ _ _ _ _ _ _ _ _ _ _ _ _ _ _ _ ?_ ?_
      · intro w' hno hB' z2 z6 z7 z8 z9 z10 z11 z12 z13 z26 z27 z28 z29 z30 z31 z32 z33 z34 z35 z36 z37 z38 z39 z40 z41 z42 z43 z44 z45 z46 z47 z48 z49 z50 z51 z52 z53 z54 z55 z56 z57 z58 z59 z60 z61 z62 z63 z64 z65 z66 z67 z68 z69 z70 z71 z72 z73 z74 z75 z76 z77 z78 z79 z80 z81 z82 z83 z84 z85 z86 z87 z88 z89 z90 z91 z92 z93 z94 z95 z96 z97 z98 z99 z100 z101 z102 z103 z104 z105 z106 z107 z108 z109 z110 z111 z112 z113 z114 z115 z116 z117 z118 z119 z120 z121 z122 z123 z124 z125 z126 z127 z128 z129 z130 z131 z132 z133 z134 z135 z136 z137 z138 z139 z140 z141 z142 z143 z144 z145 z146 z147 z148 z149 z150 z151 z152 z153 z154 z155 z156 z157 z158 z159 z160 z161 z162 z163 z164 z165 z166 z167 z168 z169 z170 z171 z172 z173 z174 z175 z176 z177 z178 z179 z180
        have Hpost : Hid (∀ q, q < 3 → rowB l A q = false) := Lib.hid (fun q hq => by
          by_cases e : q = 2
          · subst e
            exact hno
          · exact Hpre.out q (by omega))
        have HB' := Lib.hid hB'
        clear hno hB'
        go_wp2_with fail
        go_roundw
        case rel => exact ⟨3, by omega, rfl, Hpost.out, HB'.out⟩
        case measure => simp [intOf]
      · intro a w' hit hB' h2 hd
        have hr := HR2.out w' (HBe.out.trans (hB'.mono hze))
        rw [show rowR l A = 73 from rowR_at (r := 2) (by omega) Hpre.out hit] at hr
        exact ret_tmp rfl h2 hd hr
    · rw [show (71 + ((3 : Nat) : Int)) = 74 from rfl]
      go_upto_block 1 with fail
      refine wp_onRet ?_
      refine holdsRow74 lo hi l _ _ A _ _ w we wo Hv.out hhi hlen Hs.out hal HBe.out HO.out HBo.out _ _ _ _ _ _ _ _ _ _ _ _ _ _ _ _ _ _ _ _ _ _ _ _ _ _ _ _ _ _ _ _ _ _ _ _ _ _ _ _ _ _ _ _ _ _ _ _ _ _ _ _ _ _ _ _ _ _ _ _ _ _ _ _ _ _ _ _ _ _ _ _ _ _ _ _ _ _ _ _ _ _ _ _ _ _ _ _ _ _ _ _ _ _ _ _ _ _ _ _ _ _ _ _ _ _ _ _ _ _ _ _ _ _ _ _ _ _ _ _ _ _ _ _ _ _ _ _ _ _ _ _ _ _ _ _ _ _ _ _ _ _ _ _ _ _ _ _ _ _ _ _ _ _ _ _ _ _ _ _ _ _ _ _ _ _ _ _ _ _ _ _ _ _ _ _ _ _ _ _ ?_ ?_
      · intro w' hno hB' z2 z6 z7 z8 z9 z10 z11 z12 z13 z26 z27 z28 z29 z30 z31 z32 z33 z34 z35 z36 z37 z38 z39 z40 z41 z42 z43 z44 z45 z46 z47 z48 z49 z50 z51 z52 z53 z54 z55 z56 z57 z58 z59 z60 z61 z62 z63 z64 z65 z66 z67 z68 z69 z70 z71 z72 z73 z74 z75 z76 z77 z78 z79 z80 z81 z82 z83 z84 z85 z86 z87 z88 z89 z90 z91 z92 z93 z94 z95 z96 z97 z98 z99 z100 z101 z102 z103 z104 z105 z106 z107 z108 z109 z110 z111 z112 z113 z114 z115 z116 z117 z118 z119 z120 z121 z122 z123 z124 z125 z126 z127 z128 z129 z130 z131 z132 z133 z134 z135 z136 z137 z138 z139 z140 z141 z142 z143 z144 z145 z146 z147 z148 z149 z150 z151 z152 z153 z154 z155 z156 z157 z158 z159 z160 z161 z162 z163 z164 z165 z166 z167 z168 z169 z170 z171 z172 z173 z174 z175 z176 z177 z178 z179 z180
        have Hpost : Hid (∀ q, q < 4 → rowB l A q = false) := Lib.hid (fun q hq => by
          by_cases e : q = 3
          · subst e
            exact hno
          · exact Hpre.out q (by omega))
        have HB' := Lib.hid hB'
        clear hno hB'
        go_wp2_with fail
        go_roundw
        case rel => exact ⟨4, by omega, rfl, Hpost.out, HB'.out⟩
        case measure => simp [intOf]
      · intro a w' hit hB' h2 hd
        have hr := HR2.out w' (HBe.out.trans (hB'.mono hze))
        rw [show rowR l A = 74 from rowR_at (r := 3) (by omega) Hpre.out hit] at hr
        exact ret_tmp rfl h2 hd hr
    · rw [show (71 + ((4 : Nat) : Int)) = 75 from rfl]
      go_upto_block 1 with fail
      refine wp_onRet ?_
      refine holdsRow75 lo hi l _ _ A _ _ w we wo Hv.out hhi hlen Hs.out hal HBe.out HO.out HBo.out _ _ _ _ _ _ _ _ _ _ _ _ _ _ _ _ _ _ _ _ _ _ _ _ _ _ _ _ _ _ _ _ _ _ _ _ _ _ _ _ _ _ _ _ _ _ _ _ _ _ _ _ _ _ _ _ _ _ _ _ _ _ _ _ _ _ _ _ _ _ _ _ _ _ _ _ _ _ _ _ _ _ _ _ _ _ _ _ _ _ _ _ _ _ _ _ _ _ _ _ _ _ _ _ _ _ _ _ _ _ _ _ _ _ _ _ _ _ _ _ _ _ _ _ _ _ _ _ _ _ _ _ _ _ _ _ _ _ _ _ _ _ _ _ _ _ _ _ _ _ _ _ _ _ _ _ _ _ _ _ _ _ _ _ _ _ _ _ _ _ _ _ _ _ _ _ _ _ _ _ ?_ ?_
      · intro w' hno hB' z2 z6 z7 z8 z9 z10 z11 z12 z13 z26 z27 z28 z29 z30 z31 z32 z33 z34 z35 z36 z37 z38 z39 z40 z41 z42 z43 z44 z45 z46 z47 z48 z49 z50 z51 z52 z53 z54 z55 z56 z57 z58 z59 z60 z61 z62 z63 z64 z65 z66 z67 z68 z69 z70 z71 z72 z73 z74 z75 z76 z77 z78 z79 z80 z81 z82 z83 z84 z85 z86 z87 z88 z89 z90 z91 z92 z93 z94 z95 z96 z97 z98 z99 z100 z101 z102 z103 z104 z105 z106 z107 z108 z109 z110 z111 z112 z113 z114 z115 z116 z117 z118 z119 z120 z121 z122 z123 z124 z125 z126 z127 z128 z129 z130 z131 z132 z133 z134 z135 z136 z137 z138 z139 z140 z141 z142 z143 z144 z145 z146 z147 z148 z149 z150 z151 z152 z153 z154 z155 z156 z157 z158 z159 z160 z161 z162 z163 z164 z165 z166 z167 z168 z169 z170 z171 z172 z173 z174 z175 z176 z177 z178 z179 z180
        have Hpost : Hid (∀ q, q < 5 → rowB l A q = false) := Lib.hid (fun q hq => by
          by_cases e : q = 4
          · subst e
            exact hno
          · exact Hpre.out q (by omega))
        have HB' := Lib.hid hB'
        clear hno hB'
        go_wp2_with fail
        go_roundw
        case rel => exact ⟨5, by omega, rfl, Hpost.out, HB'.out⟩
        case measure => simp [intOf]
      · intro a w' hit hB' h2 hd
        have hr := HR2.out w' (HBe.out.trans (hB'.mono hze))
        rw [show rowR l A = 75 from rowR_at (r := 4) (by omega) Hpre.out hit] at hr
        exact ret_tmp rfl h2 hd hr
    · rw [show (71 + ((5 : Nat) : Int)) = 76 from rfl]
      go_upto_block 1 with fail
      refine wp_onRet ?_
      refine holdsRow76 lo hi l _ _ A _ _ w we wo Hv.out hhi hlen Hs.out hal HBe.out HO.out HBo.out _ _ _ _ _ _ _ _ _ _ _ _ _ _ _ _ _ _ _ _ _ _ _ _ _ _ _ _ _ _ _ _ _ _ _ _ _ _ _ _ _ _ _ _ _ _ _ _ _ _ _ _ _ _ _ _ _ _ _ _ _ _ _ _ _ _ _ _ _ _ _ _ _ _ _ _ _ _ _ _ _ _ _ _ _ _ _ _ _ _ _ _ _ _ _ _ _ _ _ _ _ _ _ _ _ _ _ _ _ _ _ _ _ _ _ _ _ _ _ _ _ _ _ _ _ _ _ _ _ _ _ _ _ _ _ _ _ _ _ _ _ _ _ _ _ _ _ _ _ _ _ _ _ _ _ _ _ _ _ _ _ _ _ _ _ _ _ _ _ _ _ _ _ _ _ _ _ _ _ _ ?_ ?_
      · intro w' hno hB' z2 z6 z7 z8 z9 z10 z11 z12 z13 z26 z27 z28 z29 z30 z31 z32 z33 z34 z35 z36 z37 z38 z39 z40 z41 z42 z43 z44 z45 z46 z47 z48 z49 z50 z51 z52 z53 z54 z55 z56 z57 z58 z59 z60 z61 z62 z63 z64 z65 z66 z67 z68 z69 z70 z71 z72 z73 z74 z75 z76 z77 z78 z79 z80 z81 z82 z83 z84 z85 z86 z87 z88 z89 z90 z91 z92 z93 z94 z95 z96 z97 z98 z99 z100 z101 z102 z103 z104 z105 z106 z107 z108 z109 z110 z111 z112 z113 z114 z115 z116 z117 z118 z119 z120 z121 z122 z123 z124 z125 z126 z127 z128 z129 z130 z131 z132 z133 z134 z135 z136 z137 z138 z139 z140 z141 z142 z143 z144 z145 z146 z147 z148 z149 z150 z151 z152 z153 z154 z155 z156 z157 z158 z159 z160 z161 z162 z163 z164 z165 z166 z167 z168 z169 z170 z171 z172 z173 z174 z175 z176 z177 z178 z179 z180
        have Hpost : Hid (∀ q, q < 6 → rowB l A q = false) := Lib.hid (fun q hq => by
          by_cases e : q = 5
          · subst e
            exact hno
          · exact Hpre.out q (by omega))
        have HB' := Lib.hid hB'
        clear hno hB'
        go_wp2_with fail
        go_roundw
        case rel => exact ⟨6, by omega, rfl, Hpost.out, HB'.out⟩
        case measure => simp [intOf]
      · intro a w' hit hB' h2 hd
        have hr := HR2.out w' (HBe.out.trans (hB'.mono hze))
        rw [show rowR l A = 76 from rowR_at (r := 5) (by omega) Hpre.out hit] at hr
        exact ret_tmp rfl h2 hd hr
    · rw [show (71 + ((6 : Nat) : Int)) = 77 from rfl]
      have hr := HR2.out wo (HBe.out.trans (HBo.out.mono hze))
      rw [rowR_none Hpre.out] at hr
      go_wp2_with fail
      first | exact hr | exact fin hr rfl
end Go.Proofs.Ytkcpanaojehgiaa
