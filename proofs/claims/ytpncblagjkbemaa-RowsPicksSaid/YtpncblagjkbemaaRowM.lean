/- A relation's own copy. -/
import Derived.Test.YtpncblagjkbemaaRowL
namespace Go.Proofs.Ytpncblagjkbemaa
open Go.RowKit
set_option linter.unusedVariables false
set_option linter.unusedSimpArgs false

theorem Own.apartT {α β : Type} {enc : α → List Value} {enc' : β → List Value} {e e' : TypeId} {size size' lo lo' : Nat} {w : World} {v v' : Value} {xs : List α} {ys : List β} (h : Own enc e size lo w v xs) (h' : Own enc' e' size' lo' w v' ys) (ht : e ≠ e') {k : Nat} (hk : v.ownBlock = some k) : v'.ownBlock ≠ some k := by
  rcases h.2 with ⟨rfl, -⟩ | ⟨g, cap, cur, rfl, -, hg, -⟩
  · cases hk
  · have e1 : g = k := by simpa [Value.ownBlock] using hk
    subst e1
    exact Own.ne_blk h' (cs := cur.toList) (by unfold Blk; simpa using hg) ht
set_option maxRecDepth 100000 in
set_option maxHeartbeats 4000000 in
theorem lawOwn_any (lo hi lc hc : Nat) (cols : List S) (ac : Option Addr) (cc : Nat) (l : List (List V)) (lv : Value) (w : World) (hcols : Strs lc hc w (.slice ac cols.length cc) cols) (hhc : hc ≤ w.heap.size) (hv : Rws lo hi w lv l) (hhi : hi ≤ w.heap.size) (hlen : l.length ≤ 1000000000000) (hcl : cols.length ≤ 1000000000000) (hrl : ∀ x ∈ l, x.length ≤ 1000000000000) (R : Ending → World → Prop)
    (hR : ∀ w' cv2 lv2, Below w.heap.size w w' → Strs w.heap.size w'.heap.size w' cv2 cols → Rws w.heap.size w'.heap.size w' lv2 l → R (.returned (.agg #[cv2, lv2])) w') :
    Calls Try.prog 23 #[.agg #[.slice ac cols.length cc, lv]] w R := by
  have HR := Lib.hid hR
  have Hv := Lib.hid hv
  have Hc := Lib.hid hcols
  have Hrl := Lib.hid hrl
  obtain ⟨av, cv, rfl, -, -, -, -⟩ := hv.form
  clear hR hv hcols hrl
  obtain ⟨q, hq⟩ : ∃ q, q = cols.length := ⟨_, rfl⟩
  rw [← hq]
  have Hq := Lib.hid hq
  clear hq
  go_enter Try.func23, Try.ntmps23
  go_upto_region 2 with fail
  obtain ⟨w0, hw0⟩ : ∃ w0, w0 = ((w.alloc (.cells #[.slice ac q cc, .slice av l.length cv] 34)).alloc (.cells #[.slice none 0 0, .slice none 0 0] 34)).alloc (.cells #[.slice none 0 0, .slice none 0 0] 34) := ⟨_, rfl⟩
  have s1 : (w.alloc (.cells #[.slice ac q cc, .slice av l.length cv] 34)).heap.size = w.heap.size + 1 := Array.size_push _
  have s2 : ((w.alloc (.cells #[.slice ac q cc, .slice av l.length cv] 34)).alloc (.cells #[.slice none 0 0, .slice none 0 0] 34)).heap.size = w.heap.size + 1 + 1 := (Array.size_push _).trans (by rw [s1])
  have hB0 : Below w.heap.size w w0 := by
    rw [hw0]
    exact ((alloc_below w _).alloc (by rw [s1]; omega) _).alloc (by rw [s2]; omega) _
  have hz0 : w.heap.size + 1 + 1 < w0.heap.size := by
    rw [hw0]
    show _ < (Array.push _ _).size
    rw [Array.size_push, s2]; omega
  have hb0 : Blk w0 w.heap.size [.slice ac q cc, .slice av l.length cv] 34 := by
    rw [hw0]
    exact ((Blk.new w [.slice ac q cc, .slice av l.length cv] _ rfl).alloc _).alloc _
  have hb1 : Blk w0 (w.heap.size + 1) [.slice none 0 0, .slice none 0 0] 34 := by
    rw [hw0]
    exact (Blk.new _ [.slice none 0 0, .slice none 0 0] _ s1.symm).alloc _
  have hb2 : Blk w0 (w.heap.size + 1 + 1) [.slice none 0 0, .slice none 0 0] 34 := by
    rw [hw0]
    exact Blk.new _ [.slice none 0 0, .slice none 0 0] _ s2.symm
  rw [← hw0]
  clear hw0 s1 s2
  have Hb0 := Lib.hid hb0
  have Hb1 := Lib.hid hb1
  have Hb2 := Lib.hid hb2
  have HB0 := Lib.hid hB0
  obtain ⟨d0, d1⟩ := hb0.cells.c2
  simp only [Nat.zero_add] at d1
  obtain ⟨e0, e1⟩ := hb2.cells.c2
  simp only [Nat.zero_add] at e1
  have f0 := hb2.free 0
  have f1 := hb2.free 1
  obtain ⟨v1, w1, hr1, ho1, ha1⟩ := appTL (lo := w0.heap.size) (Own.nil _ _ _ _ w0) (Sl.below Hc.out Strs.loc hB0 hhc) (by simp only [List.length_nil]; omega) (Nat.le_refl _)
  rw [List.nil_append] at ho1
  have hB1 : Below w0.heap.size w0 w1 := ha1.below (Nat.le_refl _) (fun k e => by cases e)
  have hc2 := Hb2.out.below hB1 hz0
  obtain ⟨p1, c1, ev1⟩ := Own.slice ho1
  rw [← Hq.out] at ev1
  subst ev1
  have Ho1 := Lib.hid ho1
  have HB1 := Lib.hid hB1
  have Hc2 := Lib.hid hc2
  have g0 := hc2.free 0
  obtain ⟨j0, j1⟩ := hc2.cells.c2
  simp only [Nat.zero_add] at j1
  rw [← Hq.out] at hr1
  have h2b : Blk (w1.setCell ⟨w.heap.size + 1 + 1, 0, none⟩ (.slice p1 q c1)) (w.heap.size + 1 + 1) [.slice p1 q c1, .slice none 0 0] 34 := hc2.set 0 _
  have h2o : OwnT w0.heap.size (w1.setCell ⟨w.heap.size + 1 + 1, 0, none⟩ (.slice p1 q c1)) (.slice p1 q c1) cols := Own.setOther ho1 (fun e => by
    have := (Own.lt ho1 _ e).1
    simp only at this
    omega) _
  have h2B : Below (w.heap.size + 1 + 1) w0 (w1.setCell ⟨w.heap.size + 1 + 1, 0, none⟩ (.slice p1 q c1)) := (hB1.mono (by show w.heap.size + 1 + 1 ≤ _; omega)).setCell (p := ⟨w.heap.size + 1 + 1, 0, none⟩) (Nat.le_refl _) _
  have H2b := Lib.hid h2b
  have H2o := Lib.hid h2o
  have H2B := Lib.hid h2B
  have hb0c := Hb0.out.below h2B (by omega)
  obtain ⟨d0', d1'⟩ := hb0c.cells.c2
  simp only [Nat.zero_add] at d1'
  clear hb0 hb1 hb2 hB0 ho1 ha1 hB1 hc2 h2b h2o h2B hb0c
  go_wp2_with (at_builtin; refine AtApp.of ?_)
  refine AtApp.go hr1 rfl rfl rfl rfl ?_
  go_upto_region 3 with fail
  generalize w1.setCell ⟨w.heap.size + 1 + 1, 0, none⟩ (.slice p1 q c1) = w2 at *
  clear d0 d1 e0 e1 f0 f1 g0 hr1 j0 j1
  go_wp2_with fail
  go_loopw [15] (fun t15 wr => ∃ (k : Nat) (hs : List Value) (vk : Value), k ≤ l.length ∧ t15 = .int .i64 k ∧ Blk wr (w.heap.size + 1 + 1) [.slice p1 q c1, vk] 34 ∧ OwnT w0.heap.size wr (.slice p1 q c1) cols ∧ OwnR w0.heap.size wr vk hs (l.take k) ∧ Below (w.heap.size + 1 + 1) w0 wr ∧ w0.heap.size ≤ wr.heap.size) (fun t15 _ => l.length - (intOf t15).toNat)
  case atStart => exact ⟨0, [], _, Nat.zero_le _, rfl, H2b.out, H2o.out, OwnR.nil _ _, H2B.out, H2B.out.size⟩
  case round =>
    obtain ⟨k, hs, vk, hk, rfl, hbk, hok, hrk, hB, hz⟩ := hrel
    obtain ⟨wo, ewo⟩ : ∃ x, x = wr := ⟨_, rfl⟩
    subst ewo
    have Hbk := Lib.hid hbk
    have Hok := Lib.hid hok
    have Hrk := Lib.hid hrk
    have HB := Lib.hid hB
    have kk0 : (0 : Int) ≤ (k : Int) := by omega
    have HBw := Lib.hid (HB0.out.trans (hB.mono (by omega)))
    obtain ⟨po, co, epo⟩ := Own.slice hrk.own
    subst epo
    have hb0c := Hb0.out.below hB (by omega)
    have hb2l := hbk.lt
    obtain ⟨d0, d1⟩ := hb0c.cells.c2
    simp only [Nat.zero_add] at d1
    clear hbk hok hrk hB hb0c
    by_cases hlt : k < l.length
    · obtain ⟨ao', cap', e', -, -, -, hc⟩ := (Sl.below Hv.out rowE_loc HBw.out hhi).form
      injection e' with e1 e2 e3
      subst e1 e3
      obtain ⟨b, off, rfl, hb1, hb2, hcc⟩ := hc k hlt
      obtain ⟨cs, _, hcs, sv, rfl, hsv⟩ := hcc k hlt
      have g0 := hcs.c1
      rw [Nat.mul_one] at g0
      have kkl : (k : Int) < (l.length : Int) := by omega
      have hsl : hs.length ≤ k := by
        rw [Hrk.out.len, List.length_take]; omega
      have Hst : Hid (l.take (k + 1) = l.take k ++ [l[k]]) := Lib.hid (List.take_succ_eq_append_getElem hlt)
      have hxl := Hrl.out _ (List.getElem_mem hlt)
      have hslv := hsv
      obtain ⟨ay, cy, rfl, -, -, -, -⟩ := hslv.form
      clear hcc hcs hc hslv
      generalize l[k] = x at *
      obtain ⟨v2, w2', hr2, ho2, ha2⟩ := appVL (lo := wo.heap.size) (Own.nil _ _ _ _ wo) hsv (by simp only [List.length_nil]; omega) (Nat.le_refl _)
      rw [List.nil_append] at ho2
      have hB2 : Below wo.heap.size wo w2' := ha2.below (Nat.le_refl _) (fun k e => by cases e)
      have hzw2 := hB2.size
      have hbk2 := Hbk.out.below hB2 hb2l
      have hrk2 := Hrk.out.kept hB2
      have hok2 := Own.kept Hok.out hB2
      obtain ⟨p2, c2, ev2⟩ := Own.slice ho2
      subst ev2
      obtain ⟨v3, w3, hr3, ho3, ha3⟩ := appH1 hrk2.own p2 x.length c2 rfl (by omega) (by omega)
      have hya : ∀ q, (Value.slice p2 x.length c2).ownBlock = some q → (Value.slice po hs.length co).ownBlock ≠ some q := fun q hq2 e => by
        have h1 := (Own.lt ho2 q hq2).1
        have h2 := (Own.lt Hrk.out.own q e).2
        omega
      have hrk3 := hrk2.snoc (Own.lower ho2 hz) hya ho3 ha3
      rw [← Hst.out] at hrk3
      have hbk3 := ha3.blk hbk2 (Own.ne_blk hrk2.own hbk2 (by decide))
      have hok3 : OwnT w0.heap.size w3 (.slice p1 q c1) cols := Own.same hok2 (fun g hg => ha3.grown.block g (Own.lt hok2 g hg).2 (fun e => Own.apartT hok2 hrk2.own (by decide) hg e.symm))
      have hB3 : Below (w.heap.size + 1 + 1) w0 w3 := (HB.out.trans (hB2.mono (by omega))).trans (ha3.below (by omega) (fun q e => by have := (Own.lt hrk2.own q e).1; omega))
      have hzw3 := hB3.size
      obtain ⟨p3, c3, ev3⟩ := Own.slice ho3
      have el : (hs ++ [Value.slice p2 x.length c2]).length = hs.length + 1 := by simp
      rw [el] at ev3
      subst ev3
      have f1 := hbk3.free 1
      obtain ⟨i0, i1⟩ := hbk2.cells.c2
      simp only [Nat.zero_add] at i1
      obtain ⟨m0, m1⟩ := hbk3.cells.c2
      simp only [Nat.zero_add] at m1
      have hbk4 : Blk (w3.setCell ⟨w.heap.size + 1 + 1, 1, none⟩ (.slice p3 (hs.length + 1) c3)) (w.heap.size + 1 + 1) [.slice p1 q c1, .slice p3 (hs.length + 1) c3] 34 := hbk3.set 1 _
      have hok4 : OwnT w0.heap.size (w3.setCell ⟨w.heap.size + 1 + 1, 1, none⟩ (.slice p3 (hs.length + 1) c3)) (.slice p1 q c1) cols := Own.setOther hok3 (Own.ne_blk hok3 hbk3 (by decide)) _
      have hrk4 := hrk3.setBlk hbk3 (by decide) (by decide) 1 (.slice p3 (hs.length + 1) c3)
      have hB4 := hB3.setCell (p := ⟨w.heap.size + 1 + 1, 1, none⟩) (Nat.le_refl _) (.slice p3 (hs.length + 1) c3)
      have Hbk4 := Lib.hid hbk4
      have Hok4 := Lib.hid hok4
      have Hrk4 := Lib.hid hrk4
      have HB4 := Lib.hid hB4
      clear ho2 ha2 hB2 hbk2 hrk2 hok2 ho3 ha3 hya hrk3 hbk3 hok3 hB3 hbk4 hok4 hrk4 hB4 hsv
      go_wp2_with (at_builtin; refine AtApp.of ?_)
      refine AtApp.go hr2 rfl rfl rfl rfl ?_
      go_wp2_with (at_builtin; refine AtApp.of ?_)
      refine AtApp.go hr3 rfl rfl rfl rfl ?_
      go_wp2_with fail
      go_roundw
      case rel => exact ⟨k + 1, _, _, by omega, by go_num, Hbk4.out, Hok4.out, Hrk4.out, HB4.out, HB4.out.size⟩
      case measure => simp [intOf]; omega
    · obtain rfl : k = l.length := by omega
      have llt : ¬ ((l.length : Nat) : Int) < (l.length : Int) := by omega
      have hb1 := Hb1.out.below HB.out (by omega)
      have hrk := Hrk.out
      rw [List.take_length] at hrk
      have hsl : hs.length = l.length := hrk.len
      rw [hsl] at hrk
      have hb2c := Hbk.out
      rw [hsl] at hb2c
      obtain ⟨k0, k1⟩ := hb1.cells.c2
      simp only [Nat.zero_add] at k1
      have f0 := hb1.free 0
      have f1 := hb1.free 1
      have Hld := Lib.hid (hb2c.cells.runVar (P := Try.prog) (t := 34) (fun _ => by kernel_rfl) (fun _ => by kernel_rfl))
      obtain ⟨i0, i1⟩ := hb2c.cells.c2
      simp only [Nat.zero_add] at i1
      have hb1' := hb1.set 0 (.slice p1 q c1)
      have Hrv := Lib.hid ((hb1'.set 1 (.slice po l.length co)).cells.runVar (P := Try.prog) (t := 34) (fun _ => by kernel_rfl) (fun _ => by kernel_rfl))
      have hB5 := (HBw.out.setCell (p := ⟨w.heap.size + 1, 0, none⟩) (Nat.le_succ _) (.slice p1 q c1)).setCell (p := ⟨w.heap.size + 1, 1, none⟩) (Nat.le_succ _) (.slice po l.length co)
      have hok5 : OwnT w0.heap.size ((wo.setCell ⟨w.heap.size + 1, 0, none⟩ (.slice p1 q c1)).setCell ⟨w.heap.size + 1, 1, none⟩ (.slice po l.length co)) (.slice p1 q c1) cols := by
        have h1 := Own.setOther Hok.out (Own.ne_blk Hok.out hb1 (by decide)) (p := ⟨w.heap.size + 1, 0, none⟩) (.slice p1 q c1)
        exact Own.setOther h1 (Own.ne_blk h1 hb1' (by decide)) _
      have hrk5 := (hrk.setBlk hb1 (by decide) (by decide) 0 (.slice p1 q c1)).setBlk hb1' (by decide) (by decide) 1 (.slice po l.length co)
      have Hr := Lib.hid (HR.out _ _ _ hB5 ((OwnT.sl hok5).mono Strs.loc (by omega) (Nat.le_refl _)) ((OwnR.rws hrk5).mono rowE_loc (by omega) (Nat.le_refl _)))
      clear hb1 hrk hsl hb2c hb1' hB5 hok5 hrk5
      go_wp2_with fail
      exact ret_cell rfl rfl Hrv.out rfl Hr.out
end Go.Proofs.Ytpncblagjkbemaa
