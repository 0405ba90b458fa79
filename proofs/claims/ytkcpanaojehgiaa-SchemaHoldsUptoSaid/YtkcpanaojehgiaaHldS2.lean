/- The document's Holds: row 72. (Printed by hlds.py.) -/
import Derived.Test.YtkcpanaojehgiaaHldS
namespace Go.Proofs.Ytkcpanaojehgiaa
open Go.RowKit
set_option linter.unusedVariables false
set_option linter.unusedSimpArgs false

set_option maxRecDepth 1000000 in
set_option maxHeartbeats 16000000 in
theorem holdsRow72 (lo hi : Nat) (l : List Ft) (av : Option Addr) (cv : Nat) (A : List Attr) (p1 : Option Addr) (c1 : Nat) (w we wo : World) (hv : Fts lo hi w (.slice av l.length cv) l) (hhi : hi ≤ w.heap.size) (hlen : l.length ≤ 2000000000000) (hs : ∀ x ∈ l, x.sp.length ≤ 1000000000) (hal : A.length ≤ 2000000000007)
    (hBe : Below w.heap.size w we) (ho : OwnA w.heap.size we (.slice p1 A.length c1) A) (hBo : Below we.heap.size we wo) (K P : Act → World → Prop) (cc1 cc4 cc14 cc15 cc16 cc17 cc18 cc19 cc20 cc21 cc22 cc23 cc24 cc25 u2 u6 u7 u8 u9 u10 u11 u12 u13 u26 u27 u28 u29 u30 u31 u32 u33 u34 u35 u36 u37 u38 u39 u40 u41 u42 u43 u44 u45 u46 u47 u48 u49 u50 u51 u52 u53 u54 u55 u56 u57 u58 u59 u60 u61 u62 u63 u64 u65 u66 u67 u68 u69 u70 u71 u72 u73 u74 u75 u76 u77 u78 u79 u80 u81 u82 u83 u84 u85 u86 u87 u88 u89 u90 u91 u92 u93 u94 u95 u96 u97 u98 u99 u100 u101 u102 u103 u104 u105 u106 u107 u108 u109 u110 u111 u112 u113 u114 u115 u116 u117 u118 u119 u120 u121 u122 u123 u124 u125 u126 u127 u128 u129 u130 u131 u132 u133 u134 u135 u136 u137 u138 u139 u140 u141 u142 u143 u144 u145 u146 u147 u148 u149 u150 u151 u152 u153 u154 u155 u156 u157 u158 u159 u160 u161 u162 u163 u164 u165 u166 u167 u168 u169 u170 u171 u172 u173 u174 u175 u176 u177 u178 u179 u180 : Value)
    (hn : ∀ w', rowB l A 1 = false → Below we.heap.size we w' → ∀ u2 u6 u7 u8 u9 u10 u11 u12 u13 u26 u27 u28 u29 u30 u31 u32 u33 u34 u35 u36 u37 u38 u39 u40 u41 u42 u43 u44 u45 u46 u47 u48 u49 u50 u51 u52 u53 u54 u55 u56 u57 u58 u59 u60 u61 u62 u63 u64 u65 u66 u67 u68 u69 u70 u71 u72 u73 u74 u75 u76 u77 u78 u79 u80 u81 u82 u83 u84 u85 u86 u87 u88 u89 u90 u91 u92 u93 u94 u95 u96 u97 u98 u99 u100 u101 u102 u103 u104 u105 u106 u107 u108 u109 u110 u111 u112 u113 u114 u115 u116 u117 u118 u119 u120 u121 u122 u123 u124 u125 u126 u127 u128 u129 u130 u131 u132 u133 u134 u135 u136 u137 u138 u139 u140 u141 u142 u143 u144 u145 u146 u147 u148 u149 u150 u151 u152 u153 u154 u155 u156 u157 u158 u159 u160 u161 u162 u163 u164 u165 u166 u167 u168 u169 u170 u171 u172 u173 u174 u175 u176 u177 u178 u179 u180 : Value, K ⟨#[.slice av l.length cv, cc1, u2, .slice p1 A.length c1, cc4, .int .i64 72, u6, u7, u8, u9, u10, u11, u12, u13, cc14, cc15, cc16, cc17, cc18, cc19, cc20, cc21, cc22, cc23, cc24, cc25, u26, u27, u28, u29, u30, u31, u32, u33, u34, u35, u36, u37, u38, u39, u40, u41, u42, u43, u44, u45, u46, u47, u48, u49, u50, u51, u52, u53, u54, u55, u56, u57, u58, u59, u60, u61, u62, u63, u64, u65, u66, u67, u68, u69, u70, u71, u72, u73, u74, u75, u76, u77, u78, u79, u80, u81, u82, u83, u84, u85, u86, u87, u88, u89, u90, u91, u92, u93, u94, u95, u96, u97, u98, u99, u100, u101, u102, u103, u104, u105, u106, u107, u108, u109, u110, u111, u112, u113, u114, u115, u116, u117, u118, u119, u120, u121, u122, u123, u124, u125, u126, u127, u128, u129, u130, u131, u132, u133, u134, u135, u136, u137, u138, u139, u140, u141, u142, u143, u144, u145, u146, u147, u148, u149, u150, u151, u152, u153, u154, u155, u156, u157, u158, u159, u160, u161, u162, u163, u164, u165, u166, u167, u168, u169, u170, u171, u172, u173, u174, u175, u176, u177, u178, u179, u180], []⟩ w')
    (hret : ∀ a w', rowB l A 1 = true → Below we.heap.size we w' → a.tmps.getD 2 undef = .int .i64 72 → a.defers = [] → P a w') :
    Code.wp Try.prog blkH (Exit.then K (onRet P)) ⟨#[.slice av l.length cv, cc1, u2, .slice p1 A.length c1, cc4, .int .i64 72, u6, u7, u8, u9, u10, u11, u12, u13, cc14, cc15, cc16, cc17, cc18, cc19, cc20, cc21, cc22, cc23, cc24, cc25, u26, u27, u28, u29, u30, u31, u32, u33, u34, u35, u36, u37, u38, u39, u40, u41, u42, u43, u44, u45, u46, u47, u48, u49, u50, u51, u52, u53, u54, u55, u56, u57, u58, u59, u60, u61, u62, u63, u64, u65, u66, u67, u68, u69, u70, u71, u72, u73, u74, u75, u76, u77, u78, u79, u80, u81, u82, u83, u84, u85, u86, u87, u88, u89, u90, u91, u92, u93, u94, u95, u96, u97, u98, u99, u100, u101, u102, u103, u104, u105, u106, u107, u108, u109, u110, u111, u112, u113, u114, u115, u116, u117, u118, u119, u120, u121, u122, u123, u124, u125, u126, u127, u128, u129, u130, u131, u132, u133, u134, u135, u136, u137, u138, u139, u140, u141, u142, u143, u144, u145, u146, u147, u148, u149, u150, u151, u152, u153, u154, u155, u156, u157, u158, u159, u160, u161, u162, u163, u164, u165, u166, u167, u168, u169, u170, u171, u172, u173, u174, u175, u176, u177, u178, u179, u180], []⟩ wo := by
  have Hn := Lib.hid hn
  have Hret := Lib.hid hret
  have Hv := Lib.hid hv
  have Hs := Lib.hid hs
  have HBe := Lib.hid hBe
  have hze := hBe.size
  have HO := Lib.hid ho
  have HBo := Lib.hid hBo
  have hzo := hBo.size
  clear hn hret hv hs hBe ho hBo
  conv => arg 2; whnf
  go_wp2_with fail
  go_loopw [6] (fun t6 wr => ∃ i : Nat, i ≤ l.length ∧ t6 = .int .i64 i ∧ (∀ j, j < i → w72 l A (l.getD j default) = false) ∧ Below we.heap.size we wr) (fun t6 _ => l.length - (intOf t6).toNat)
  case atStart => exact ⟨0, Nat.zero_le _, rfl, fun j h => absurd h (Nat.not_lt_zero _), HBo.out⟩
  case round =>
    obtain ⟨i, hi', rfl, hno, hBi⟩ := hrel
    obtain ⟨wi, ewi⟩ : ∃ x, x = wr := ⟨_, rfl⟩
    subst ewi
    have Hno := Lib.hid hno
    have HBi := Lib.hid hBi
    have hzi := hBi.size
    have ii0 : (0 : Int) ≤ (i : Int) := by omega
    have HBwi := Lib.hid (HBe.out.trans (hBi.mono hze))
    clear hno hBi
    by_cases hlt : i < l.length
    · obtain ⟨ao', cap', e', -, -, -, hc⟩ := (Sl.below Hv.out ftE_loc HBwi.out hhi).form
      injection e' with e1 e2 e3
      subst e1 e3
      obtain ⟨b, off, rfl, hb1, hb2, hcc⟩ := hc i hlt
      obtain ⟨cs, _, hcs, sv, rfl, hsv⟩ := hcc i hlt
      obtain ⟨h0, h1, h2, h3, h4, h5⟩ := hcs.f6
      have il : (i : Int) < (l.length : Int) := by omega
      have Hxx : Hid (l.getD i default = l[i]) := Lib.hid (getD_at l _ i hlt)
      have Hxm : Hid (l[i] ∈ l) := Lib.hid (List.getElem_mem hlt)
      have Hsv := Lib.hid hsv
      have Hcs := Lib.hid hcs
      have hbi : b < wi.heap.size := by have := HBwi.out.size; omega
      obtain ⟨asp, csp, rfl, -, -, -, -⟩ := hsv.form
      clear hcc hc hsv hcs
      generalize l[i] = x at *
      go_wp2_with fail
      refine refByID_any w.heap.size we.heap.size _ A x.a wi (Sl.below (OwnA.attrs HO.out) Attrs.loc HBi.out (Nat.le_refl _)) (by omega) _ (fun w1 hB1 => ?_)
      rw [show findA A (A.findIdx? (byID x.a)) = atA A x.a from rfl, show (A.findIdx? (byID x.a)).isSome = isA A x.a from rfl]
      have HB1 := Lib.hid (HBi.out.trans (hB1.mono hzi))
      have HW1 := Lib.hid hB1
      have hhiw : hi ≤ wi.heap.size := by have := HBwi.out.size; omega
      have hz1 := HB1.out.size
      have Hcs1 := Lib.hid (CellsAt.agree Hcs.out (.below hB1 (Nat.le_refl _)) (Nat.zero_le _) hbi)
      have hz1i := hB1.size
      clear hB1 h0 h1 h2 h3 h4 h5
      obtain ⟨a, haa⟩ : ∃ a, a = atA A x.a := ⟨_, rfl⟩
      rw [← haa]
      have Haa := Lib.hid haa
      clear haa
      generalize isA A x.a = ia at *
      have hal := alloc_below w1 (.cells #[.int .i64 a.id, .string ⟨a.name.toArray⟩, .int .i64 a.type, .bool a.many, .int .i64 a.unique, .bool a.part, .bool a.index] 24)
      have hbk := Blk.new w1 [.int .i64 a.id, .string ⟨a.name.toArray⟩, .int .i64 a.type, .bool a.many, .int .i64 a.unique, .bool a.part, .bool a.index] 24 rfl
      go_upto_region 11 with fail
      generalize w1.alloc (.cells #[.int .i64 a.id, .string ⟨a.name.toArray⟩, .int .i64 a.type, .bool a.many, .int .i64 a.unique, .bool a.part, .bool a.index] 24) = w2 at *
      have HB2 := Lib.hid (HB1.out.trans (hal.mono hz1))
      have HW2 := Lib.hid (HW1.out.trans (hal.mono hz1i))
      have HBw2 := Lib.hid (HBe.out.trans (HB2.out.mono hze))
      have hz2 := HB2.out.size
      have Hcs2 := Lib.hid (CellsAt.agree Hcs1.out (.below hal (Nat.le_refl _)) (Nat.zero_le _) (by omega))
      have hbi2 : b < w2.heap.size := by have := hal.size; omega
      obtain ⟨h0, h1, h2, h3, h4, h5⟩ := Hcs2.out.f6
      have Hbk := Lib.hid hbk
      clear hal hbk
      go_wp2_with fail
      refine wrong72_any lo hi w.heap.size we.heap.size l _ A _ x _ w2 (Sl.below Hv.out ftE_loc HBw2.out hhi) (by have := HBw2.out.size; omega) hlen (Sl.below (OwnA.attrs HO.out) Attrs.loc HB2.out (Nat.le_refl _)) hz2 (Sl.below Hsv.out Sp.loc HW2.out hhiw) _ (fun w3 hB3 => ?_)
      have HB3 := Lib.hid (HB2.out.trans (hB3.mono hz2))
      clear hB3 h0 h1 h2 h3 h4 h5
      cases hbad : (w72 l A x)
      case true =>
        have hit : rowB l A 1 = true := any_yes (i := i) (d := default) hlt (by rw [Hxx.out]; exact hbad)
        have Hit := Lib.hid hit
        clear hbad hit
        go_wp2_with fail
        exact Hret.out _ _ Hit.out HB3.out rfl rfl
      have Hbad := Lib.hid hbad
      clear hbad
      go_wp2_with fail
      go_loopw [9] (fun t9 wr => t9 = .int .i64 0 ∧ Below we.heap.size we wr) (fun _ _ => 0)
      case atStart => exact ⟨rfl, HB3.out⟩
      case round =>
        obtain ⟨rfl, hBk⟩ := hrel
        obtain ⟨wk, ewk⟩ : ∃ x, x = wr := ⟨_, rfl⟩
        subst ewk
        have HBk := Lib.hid hBk
        clear hBk
        rcases Nat.eq_zero_or_pos i with h00 | h00
        · subst h00
          go_wp2_with fail
          go_roundw
          case rel => exact ⟨1, by omega, rfl, fun j hj => by
              by_cases e : j = 0
              · subst e; rw [Hxx.out]; exact Hbad.out
              · exact Hno.out j (by omega), HBk.out⟩
          case measure => simp [intOf]; omega
        · have h01 : (0 : Int) < (i : Int) := by omega
          go_wp2_with fail
          go_roundw
          case rel => exact ⟨i + 1, by omega, by go_num, fun j hj => by
              by_cases e : j = i
              · subst e; rw [Hxx.out]; exact Hbad.out
              · exact Hno.out j (by omega), HBk.out⟩
          case measure => simp [intOf]; omega
    · obtain rfl : i = l.length := by omega
      have Hpost : Hid (rowB l A 1 = false) := Lib.hid (any_no (d := default) Hno.out)
      go_wp2_with fail
      go_loopw [13] (fun t13 wr => t13 = .int .i64 0 ∧ Below we.heap.size we wr) (fun _ _ => 0)
      case atStart => exact ⟨rfl, HBi.out⟩
      case round =>
        obtain ⟨rfl, hBk⟩ := hrel
        obtain ⟨wk, ewk⟩ : ∃ x, x = wr := ⟨_, rfl⟩
        subst ewk
        have HBk := Lib.hid hBk
        clear hBk
        rcases Nat.eq_zero_or_pos A.length with h00 | h00
        · obtain rfl := List.length_eq_zero_iff.1 h00
          clear h00
          go_wp2_with fail
          exact Hn.out _ Hpost.out HBk.out _ _ _ _ _ _ _ _ _ _ _ _ _ _ _ _ _ _ _ _ _ _ _ _ _ _ _ _ _ _ _ _ _ _ _ _ _ _ _ _ _ _ _ _ _ _ _ _ _ _ _ _ _ _ _ _ _ _ _ _ _ _ _ _ _ _ _ _ _ _ _ _ _ _ _ _ _ _ _ _ _ _ _ _ _ _ _ _ _ _ _ _ _ _ _ _ _ _ _ _ _ _ _ _ _ _ _ _ _ _ _ _ _ _ _ _ _ _ _ _ _ _ _ _ _ _ _ _ _ _ _ _ _ _ _ _ _ _ _ _ _ _ _ _ _ _ _ _ _ _ _ _ _ _ _ _ _ _ _ _ _ _ _ _
        · have h01 : (0 : Int) < (A.length : Int) := by omega
          go_wp2_with fail
          exact Hn.out _ Hpost.out HBk.out _ _ _ _ _ _ _ _ _ _ _ _ _ _ _ _ _ _ _ _ _ _ _ _ _ _ _ _ _ _ _ _ _ _ _ _ _ _ _ _ _ _ _ _ _ _ _ _ _ _ _ _ _ _ _ _ _ _ _ _ _ _ _ _ _ _ _ _ _ _ _ _ _ _ _ _ _ _ _ _ _ _ _ _ _ _ _ _ _ _ _ _ _ _ _ _ _ _ _ _ _ _ _ _ _ _ _ _ _ _ _ _ _ _ _ _ _ _ _ _ _ _ _ _ _ _ _ _ _ _ _ _ _ _ _ _ _ _ _ _ _ _ _ _ _ _ _ _ _ _ _ _ _ _ _ _ _ _ _ _ _ _ _ _
end Go.Proofs.Ytkcpanaojehgiaa
