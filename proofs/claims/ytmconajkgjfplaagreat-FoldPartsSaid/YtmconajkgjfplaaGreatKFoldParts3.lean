/- Texts that the proofs of FoldParts stand on, part 3. -/
import Derived.Test.YtmconajkgjfplaaGreatProg
import Derived.StillTailTactics
import Derived.RegionTactic
import Derived.ChangeAlike
import Derived.Test.YtmconajkgjfplaaGreatKFoldParts2
/- The program's Project and Rename. -/
section
set_option linter.unusedVariables false
set_option linter.unusedSimpArgs false
namespace Go.Proofs.YtmconajkgjfplaaGreat
open Go.RowKit
set_option linter.unusedVariables false
set_option linter.unusedSimpArgs false

def projErr (rc : List S) (l : List (List V)) (cols : List S) : Int := if mayRel rc l && withinB cols rc && onceB cols then madeErr cols (l.map fun x => pickL x (placesL cols rc)) else 2
theorem may_len {cols : List S} {l : List (List V)} (h : mayRel cols l = true) : ∀ x ∈ l, x.length = cols.length := by
  intro x hx
  obtain ⟨i, hi, rfl⟩ := List.getElem_of_mem hx
  unfold mayRel at h
  rw [Bool.and_eq_true, List.all_eq_true] at h
  have := h.2 i (List.mem_range.2 hi)
  unfold mayAt at this
  rw [getDS l _ i hi, Bool.and_eq_true] at this
  simpa using this.1
theorem may_many {cols : List S} {l : List (List V)} (h : mayRel cols l = true) : l.length ≤ 100000 ∧ cols.length ≤ 32 := by
  unfold mayRel at h
  simp only [Bool.and_eq_true, decide_eq_true_eq] at h
  exact ⟨h.1.2, once_len h.1.1⟩
theorem map_fm {α β : Type} (f : α → β) (l : List α) : l.filterMap (fun x => some (f x)) = l.map f := by
  induction l with
  | nil => rfl
  | cons x r ih => simp [ih]
theorem placesK_any (lo hi lo2 hi2 : Nat) (cols among : List S) (vo va : Value) (w : World) (ho : Strs lo hi w vo cols) (hhi : hi ≤ w.heap.size) (ha : Strs lo2 hi2 w va among) (hhi2 : hi2 ≤ w.heap.size) (hlen : cols.length ≤ 1000000000000) (R : Ending → World → Prop)
    (hR : ∀ w' v' ks, Below w.heap.size w w' → OwnI w.heap.size w' v' ks → (withinB cols among = true → ks = placesL cols among) → R (.returned (.tuple #[v', .bool (withinB cols among)])) w') : Calls Tryz.prog 24 #[vo, va] w R := by
  refine places_any lo hi lo2 hi2 cols among vo va w ho hhi ha hhi2 hlen R (fun h w' hB => ?_) (fun h w' v' hB ho => ?_)
  · have := hR w' _ [] hB (Own.nil _ _ _ _ _) (fun e => by rw [h] at e; cases e)
    rw [h] at this
    exact this
  · have := hR w' v' _ hB ho (fun _ => rfl)
    rw [h] at this
    exact this
set_option maxRecDepth 100000 in
set_option maxHeartbeats 2000000 in
theorem Project1_any (lo hi lo2 hi2 b : Nat) (x : List V) (at' : List Int) (vx va : Value) (w : World) (hx : Row1 lo hi w vx x) (hhi : hi ≤ w.heap.size) (ha : Ints lo2 hi2 w va at') (hhi2 : hi2 ≤ w.heap.size) (hb : Blk w b [va] 58) (hok : AtOk x.length at') (hlen : at'.length ≤ 1000000000000) (R : Ending → World → Prop)
    (hR : ∀ w' v', Below w.heap.size w w' → OwnV w.heap.size w' v' (pickL x at') → R (.returned (.tuple #[v', .bool true])) w') : Calls Tryz.prog 29 #[vx, .pointer (some ⟨b, 0, none⟩)] w R := by
  have HR := Lib.hid hR
  have Hx := Lib.hid hx
  have Ha := Lib.hid ha
  obtain ⟨ax, cx, rfl, -, -, -, -⟩ := hx.form
  obtain ⟨aa, ca, rfl, -, -, -, -⟩ := ha.form
  have c0 := hb.cells.c1
  clear hR hx ha hb
  go_enter Tryz.func29, Tryz.ntmps29
  go_wp2_with fail
  refine pick_any lo hi lo2 hi2 x at' _ _ w Hx.out hhi Ha.out hhi2 hok hlen _ (fun w1 v1 hB1 ho1 => ?_)
  have hr := HR.out w1 v1 hB1 ho1
  obtain ⟨p1, c1, rfl⟩ := Own.slice ho1
  clear hB1 ho1
  go_wp2_with fail
  first | exact hr | exact fin hr rfl
set_option maxRecDepth 100000 in
set_option maxHeartbeats 4000000 in
theorem Project_any (lo hi lc hc l2 h2 : Nat) (rc : List S) (ac : Option Addr) (cc : Nat) (l : List (List V)) (lv : Value) (cols : List S) (cv : Value) (w : World) (hrc : Strs lc hc w (.slice ac rc.length cc) rc) (hhc : hc ≤ w.heap.size) (hv : Rws lo hi w lv l) (hhi : hi ≤ w.heap.size) (hcols : Strs l2 h2 w cv cols) (hh2 : h2 ≤ w.heap.size) (hlen : cols.length ≤ 1000000000000) (hll : l.length ≤ 1000000000000) (R : Ending → World → Prop)
    (hR : ∀ w' cv2 lv2 hs, Below w.heap.size w w' → OwnT w.heap.size w' cv2 (okL (projErr rc l cols) cols) → OwnR w.heap.size w' lv2 hs (okL (projErr rc l cols) (relCanon (l.map fun x => pickL x (placesL cols rc)))) → R (.returned (.tuple #[.agg #[cv2, lv2], .int .i64 (projErr rc l cols)])) w') :
    Calls Tryz.prog 8 #[.agg #[.slice ac rc.length cc, lv], cv] w R := by
  have HR := Lib.hid hR
  have Hv := Lib.hid hv
  have Hrc := Lib.hid hrc
  have Hc := Lib.hid hcols
  obtain ⟨av, cv2, rfl, -, -, -, -⟩ := hv.form
  obtain ⟨ak, ck, rfl, -, -, -, -⟩ := hcols.form
  have hkl := hcols.len
  have hrl := hrc.len
  clear hR hv hrc hcols
  have hs1 : (w.alloc (.cells #[.slice ac rc.length cc, .slice av l.length cv2] 25)).heap.size = w.heap.size + 1 := by simp
  have hB1 := alloc_below w (.cells #[.slice ac rc.length cc, .slice av l.length cv2] 25)
  have hb1 := Blk.new w [.slice ac rc.length cc, .slice av l.length cv2] 25 rfl
  have hB2 := alloc_below (w.alloc (.cells #[.slice ac rc.length cc, .slice av l.length cv2] 25)) (.cells #[.slice none 0 0, .slice none 0 0] 25)
  have hb2 := Blk.new (w.alloc (.cells #[.slice ac rc.length cc, .slice av l.length cv2] 25)) [.slice none 0 0, .slice none 0 0] 25 hs1.symm
  have hb12 := hb1.below hB2 hb1.lt
  have hB := hB1.trans (hB2.mono hB1.size)
  go_enter Tryz.func8, Tryz.ntmps8
  go_upto_region 1 with fail
  generalize (w.alloc (.cells #[.slice ac rc.length cc, .slice av l.length cv2] 25)).alloc (.cells #[.slice none 0 0, .slice none 0 0] 25) = w2 at *
  have HB := Lib.hid hB
  have Hb1 := Lib.hid hb12
  have Hb2 := Lib.hid hb2
  have hz2 := hB.size
  have hl1 := hb12.lt
  have hl2 := hb2.lt
  obtain ⟨c0, c1⟩ := hb12.cells.c2
  simp only [Nat.zero_add] at c1
  clear hB1 hb1 hs1 hB2 hb2 hb12 hB
  go_wp2_with fail
  refine placesK_any l2 h2 lc hc cols rc _ _ w2 (Sl.below Hc.out Strs.loc HB.out hh2) (by omega) (Sl.below Hrc.out Strs.loc HB.out hhc) (by omega) hlen _ (fun w3 v3 ks hB3 ho3 hks => ?_)
  obtain ⟨p3, q3, rfl⟩ := Own.slice ho3
  have Hks := Lib.hid hks
  have Ho3 := Lib.hid ho3
  have HB23 := Lib.hid hB3
  have hz3 := hB3.size
  clear hB3 ho3 hks c0 c1
  go_upto_region 2 with fail
  have hBa := alloc_below w3 (.cells #[.slice p3 ks.length q3] 58)
  have hba := Blk.new w3 [.slice p3 ks.length q3] 58 rfl
  generalize w3.alloc (.cells #[.slice p3 ks.length q3] 58) = w4 at *
  have HB34 := Lib.hid hBa
  have Hb4 := Lib.hid hba
  have hz4 := hBa.size
  have hl4 := hba.lt
  have HB24 := Lib.hid (HB23.out.trans (HB34.out.mono hz3))
  have HB4 := Lib.hid (HB.out.trans (HB24.out.mono hz2))
  obtain ⟨c0, c1⟩ := (Hb1.out.below HB24.out hl1).cells.c2
  simp only [Nat.zero_add] at c1
  clear hBa hba
  go_wp2_with fail
  refine May_any lo hi lc hc rc _ _ l _ w4 (Sl.below Hrc.out Strs.loc HB4.out hhc) (by omega) (Sl.below Hv.out rowE_loc HB4.out hhi) (by omega) _ (fun w5 hB5 => ?_)
  have HB45 := Lib.hid hB5
  have hz5 := hB5.size
  have HB25 := Lib.hid (HB24.out.trans (hB5.mono (by omega)))
  have HB5 := Lib.hid (HB4.out.trans (hB5.mono (by omega)))
  clear hB5 c0 c1
  cases hm : mayRel rc l
  · have hbE := Hb2.out.below HB25.out hl2
    obtain ⟨e0, e1⟩ := hbE.cells.c2
    have f0 := hbE.free 0
    have f1 := hbE.free 1
    simp only [Nat.zero_add] at e1
    have he : projErr rc l cols = 2 := by unfold projErr; rw [hm]; rfl
    obtain ⟨t1, t2, t3, t4⟩ := relTail (pc := none) (pr := none) (qc := 0) (qr := 0) hbE (Nat.le_succ _) HB5.out (Own.nil _ _ _ _ _) (OwnR.nil _ _)
    have hr := HR.out _ _ _ [] t1 (by rw [he]; exact t2) (by rw [he]; exact t3)
    rw [he] at hr
    have Hr := Lib.hid hr
    have Ht := Lib.hid t4
    clear hm hbE hr t1 t2 t3 t4 he
    go_wp2_with fail
    exact ret_cell_tmp rfl rfl Ht.out rfl rfl Hr.out
  have Hm := Lib.hid hm
  clear hm
  cases hw : withinB cols rc
  · have hbE := Hb2.out.below HB25.out hl2
    obtain ⟨e0, e1⟩ := hbE.cells.c2
    have f0 := hbE.free 0
    have f1 := hbE.free 1
    simp only [Nat.zero_add] at e1
    have he : projErr rc l cols = 2 := by unfold projErr; rw [hw, Hm.out]; rfl
    obtain ⟨t1, t2, t3, t4⟩ := relTail (pc := none) (pr := none) (qc := 0) (qr := 0) hbE (Nat.le_succ _) HB5.out (Own.nil _ _ _ _ _) (OwnR.nil _ _)
    have hr := HR.out _ _ _ [] t1 (by rw [he]; exact t2) (by rw [he]; exact t3)
    rw [he] at hr
    have Hr := Lib.hid hr
    have Ht := Lib.hid t4
    clear hw hbE hr t1 t2 t3 t4 he
    go_wp2_with fail
    exact ret_cell_tmp rfl rfl Ht.out rfl rfl Hr.out
  have Hw := Lib.hid hw
  obtain rfl := Hks.out hw
  clear hw Hks
  go_wp2_with fail
  refine once_any l2 h2 cols _ w5 (Sl.below Hc.out Strs.loc HB5.out hh2) _ ?_
  cases hon : onceB cols
  · have hbE := Hb2.out.below HB25.out hl2
    obtain ⟨e0, e1⟩ := hbE.cells.c2
    have f0 := hbE.free 0
    have f1 := hbE.free 1
    simp only [Nat.zero_add] at e1
    have he : projErr rc l cols = 2 := by unfold projErr; rw [hon, Hm.out, Hw.out]; rfl
    obtain ⟨t1, t2, t3, t4⟩ := relTail (pc := none) (pr := none) (qc := 0) (qr := 0) hbE (Nat.le_succ _) HB5.out (Own.nil _ _ _ _ _) (OwnR.nil _ _)
    have hr := HR.out _ _ _ [] t1 (by rw [he]; exact t2) (by rw [he]; exact t3)
    rw [he] at hr
    have Hr := Lib.hid hr
    have Ht := Lib.hid t4
    clear hon hbE hr t1 t2 t3 t4 he
    go_wp2_with fail
    exact ret_cell_tmp rfl rfl Ht.out rfl rfl Hr.out
  have he : projErr rc l cols = madeErr cols (l.map fun x => pickL x (placesL cols rc)) := by unfold projErr; rw [hon, Hm.out, Hw.out]; rfl
  rw [he] at HR
  clear he hon
  obtain ⟨c0, c1⟩ := (Hb1.out.below HB25.out hl1).cells.c2
  simp only [Nat.zero_add] at c1
  go_wp2_with fail
  refine gather_any lo hi l _ 29 #[.pointer (some ⟨w3.heap.size, 0, none⟩)] (fun x => some (pickL x (placesL cols rc))) w5 (Sl.below Hv.out rowE_loc HB5.out hhi) (by omega) (by omega) (enters_of Tryz.func29 (by kernel_rfl) rfl) (fun k hk xv w' R' hB' hx' hR' => ?_) _ (fun w6 v6 hs6 hB6 h6 => ?_)
  · have hz' := hB'.size
    have hBw := HB45.out.trans (hB'.mono hz5)
    refine Project1_any lo hi w2.heap.size w3.heap.size w3.heap.size l[k] (placesL cols rc) xv _ w' hx' (by omega) (Sl.below (OwnI.sl Ho3.out) Ints.loc (HB34.out.trans (hBw.mono hz4)) (Nat.le_refl _)) (by omega) (Hb4.out.below hBw hl4) (by rw [may_len Hm.out _ (List.getElem_mem hk)]; exact places_ok Hw.out) (by unfold placesL; rw [List.length_map]; exact hlen) R' (fun w'' yv hB'' ho'' => ?_)
    obtain ⟨a, c, e⟩ := Own.slice ho''
    exact hR' w'' yv hB'' (fun _ => ho'') ⟨a, _, c, e⟩
  rw [map_fm] at h6
  obtain ⟨p6, q6, e6⟩ := Own.slice h6.own
  subst e6
  have HB6 := Lib.hid hB6
  have H6 := Lib.hid h6
  have hz6 := hB6.size
  have HBw6 := Lib.hid (HB5.out.trans (hB6.mono (by omega)))
  clear hB6 h6 c0 c1
  go_wp2_with fail
  refine madeK_any w5.heap.size l2 h2 cols _ _ hs6 _ w6 (Sl.below Hc.out Strs.loc HBw6.out hh2) (by omega) hz6 H6.out (by rw [List.length_map]; exact hll) _ (fun w7 cv7 lv7 hs7 hB7 hz7 hT7 hO7 => ?_)
  generalize hE : madeErr cols (l.map fun x => pickL x (placesL cols rc)) = err at *
  generalize okL err cols = oc at *
  generalize okL err (relCanon (l.map fun x => pickL x (placesL cols rc))) = ol at *
  obtain ⟨p7, q7, rfl⟩ := Own.slice hT7
  obtain ⟨p8, q8, e8⟩ := Own.slice hO7.own
  rw [hO7.len] at e8
  subst e8
  have hB57 : Below w5.heap.size w5 w7 := HB6.out.trans hB7
  have hb7 := Hb2.out.below (HB25.out.trans (hB57.mono (by omega))) hl2
  obtain ⟨e0, e1⟩ := hb7.cells.c2
  have f0 := hb7.free 0
  have f1 := hb7.free 1
  simp only [Nat.zero_add] at e1
  obtain ⟨t1, t2, t3, t4⟩ := relTail hb7 (Nat.le_succ _) (HB5.out.trans (hB57.mono (by omega))) (Own.lower hT7 (by omega)) (hO7.lower (by omega))
  have hr := HR.out _ _ _ _ t1 t2 t3
  have Hr := Lib.hid hr
  have Ht := Lib.hid t4
  clear hr t1 t2 t3 t4 hb7 hB57 hB7 hT7 hO7
  go_wp2_with fail
  exact ret_cell_tmp rfl rfl Ht.out rfl rfl Hr.out
end Go.Proofs.YtmconajkgjfplaaGreat
end

/- slices.BinarySearchFunc of rows; the program's Has. -/
section
set_option linter.unusedVariables false
set_option linter.unusedSimpArgs false
namespace Go.Proofs.YtmconajkgjfplaaGreat
open Go.RowKit
set_option linter.unusedVariables false
set_option linter.unusedSimpArgs false

theorem wrapU {x : Int} (h1 : 0 ≤ x) (h2 : x ≤ 18446744073709551615) : IntKind.u64.wrap x = x := by
  simp [IntKind.wrap, IntKind.bits, IntKind.signed]; omega
theorem may_up {cols : List S} {l : List (List V)} (h : mayRel cols l = true) : l.Pairwise fun a b => cmpR a b < 0 := by
  have step : ∀ i, i + 1 < l.length → cmpR (l.getD i []) (l.getD (i + 1) []) < 0 := by
    intro i hi
    unfold mayRel at h
    rw [Bool.and_eq_true, List.all_eq_true] at h
    have := h.2 (i + 1) (List.mem_range.2 hi)
    unfold mayAt at this
    rw [Bool.and_eq_true] at this
    simpa using this.2
  have key : ∀ d i, i + (d + 1) < l.length → cmpR (l.getD i []) (l.getD (i + (d + 1)) []) < 0 := by
    intro d
    induction d with
    | zero => intro i hi; exact step i hi
    | succ d ih => intro i hi; exact cmpR_cmp.trans _ _ _ (ih i (by omega)) (step (i + (d + 1)) (by omega))
  rw [List.pairwise_iff_getElem]
  intro i j hi hj hij
  have := key (j - i - 1) i (by omega)
  rw [show i + (j - i - 1 + 1) = j by omega, getDS l _ i hi, getDS l _ j hj] at this
  exact this
end Go.Proofs.YtmconajkgjfplaaGreat
end

/- The library's merge in place, at rows' headers. (Printed by stb.py.) -/
section
set_option linter.unusedVariables false
set_option linter.unusedSimpArgs false
namespace Go.Proofs.YtmconajkgjfplaaGreat
open Go.RowKit Go.Sort Go.Shelf
set_option linter.unusedVariables false
set_option linter.unusedSimpArgs false
variable {α : Type} [Inhabited α]

/-- What a merge leaves. -/
def SymPost (enc : α → Value) (lt : α → α → Bool) (w0 : World) (blk off a b : Nat) (d : Array α) (e : Ending) (w' : World) : Prop := e = .returned (.tuple #[]) ∧ ∃ d', PermIn a b d d' ∧ SortedIn lt a b d' ∧ SW enc w0 blk off d' w'
set_option maxHeartbeats 16000000 in
set_option maxRecDepth 1000000 in
theorem symMerge1_s (enc : α → Value) (cf : α → α → Int) (hO : SWO (ltOf cf)) (g : Nat) (cb : Array Value) (blk off cap a m b : Nat) (d0 d : Array α) (w0 w : World)
    (eg : ∀ args w, (callFunc g args).run Tryz.prog w = .ok (.enter g args) w) (hcmp : CmpLays1 Tryz.prog g cb enc cf blk off d0.size w0) (R : Go.Proofs.Row1 enc w0 blk off d0) (hs : d0.size = d.size) (S : SW enc w0 blk off d w) (ham : a < m) (hmb : m < b) (hb : b ≤ d.size) (hsz : d.size < 4611686018427387904)
    (hs1 : SortedIn (ltOf cf) a m d) (hs2 : SortedIn (ltOf cf) m b d) (hm : m = a + 1) :
    Calls Tryz.prog 95 #[.slice (some ⟨blk, off, none⟩) d.size cap, .int .i64 a, .int .i64 m, .int .i64 b, .func (.func g) #[] cb] w (SymPost enc (ltOf cf) w0 blk off a b d) := by
  have mixed : Tryz.prog.follows .mixedOrders = true := by kernel_rfl
  have hcl0 := R.hO.cells
  simp only [Value.cells] at hcl0
  have hst := R.hO.store Tryz.prog
  have S0 : Aside (SW enc w0 blk off d w) := S
  have HC : Aside _ := hcmp
  have HR := Lib.hid R
  have HO := Lib.hid hO
  have Hs1 := Lib.hid hs1
  have Hs2 := Lib.hid hs2
  have Hs := Lib.hid hs
  have hszI : (d.size : Int) < 4611686018427387904 := by omega
  have hbI : (b : Int) ≤ (d.size : Int) := by omega
  clear S hcmp R hs1 hs2 hO hs
  have e1 : (m : Int) - (a : Int) = 1 := by omega
  have Hm := Lib.hid hm
  clear hm
  go_enter Tryz.func95, Tryz.ntmps95
  go_wp2_with fail
  clear e1
  go_loopw [10, 11] (fun t10 t11 wr => ∃ (i j : Nat), t10 = .int .i64 i ∧ t11 = .int .i64 j ∧ m ≤ i ∧ i ≤ j ∧ j ≤ b ∧ Hid (i = m ∨ ltOf cf d[i - 1]! d[a]! = true) ∧ Hid (j = b ∨ ltOf cf d[j]! d[a]! = false) ∧ Aside (SW enc w0 blk off d wr)) (fun t10 t11 _ => (intOf t11).toNat - (intOf t10).toNat)
  case atStart => exact ⟨m, b, rfl, rfl, Nat.le_refl _, by omega, Nat.le_refl _, Lib.hid (.inl rfl), Lib.hid (.inl rfl), S0⟩
  case round =>
    clear S0
    obtain ⟨i, j, rfl, rfl, hmi, hij, hjb, Hi, Hj, S1⟩ := hrel
    by_cases hlt : i < j
    · have iij : (i : Int) < (j : Int) := by omega
      obtain ⟨h, hh⟩ : ∃ q, q = (i + j) / 2 := ⟨_, rfl⟩
      have w1 : IntKind.i64.wrap ((i : Int) + (j : Int)) = (i : Int) + (j : Int) := wrapOk (by omega) (by omega)
      have w2 : IntKind.u64.wrap ((i : Int) + (j : Int)) = (i : Int) + (j : Int) := wrapU (by omega) (by omega)
      have w3 : ((i : Int) + (j : Int)) / 2 = (h : Int) := by omega
      have h1h : i ≤ h ∧ h < j := by omega
      have zzh : (0 : Int) ≤ (h : Int) := by omega
      have zlh : (h : Int) < (d.size : Int) := by omega
      have za : (0 : Int) ≤ (a : Int) := by omega
      have zla : (a : Int) < (d.size : Int) := by omega
      cases hlv : ltOf cf d[h]! d[a]! with
      | true =>
        obtain ⟨x1, hx1⟩ : ∃ x, x = d[h]! := ⟨_, rfl⟩
        obtain ⟨y1, hy1⟩ : ∃ x, x = d[a]! := ⟨_, rfl⟩
        have l1 := S1.out.cl HR.out Hs.out.symm (h) (by omega)
        have l2 := S1.out.cl HR.out Hs.out.symm (a) (by omega)
        rw [← hx1] at l1
        rw [← hy1] at l2
        have hc1 := S1.out.cmp HC.out Hs.out.symm x1 y1
        have hv1 : cf x1 y1 < 0 := by rw [hx1, hy1]; exact of_decide_eq_true hlv
        have hd1 : decide (cf x1 y1 < 0) = true := decide_eq_true hv1
        have Hlv := Lib.hid hlv
        clear hh
        clear hx1 hy1 hlv
        go_wp2_with fail
        go_quiet_grown (first | (go_at_fn g; refine Calls.grown_of (hc1 _ _)))
        have S2 : Aside (SW enc w0 blk off d (grow (wr.drewN nq) osq)) := S1.out.grown nq osq
        clear l1 l2 hc1 S1
        generalize grow (wr.drewN nq) osq = w2 at S2 ⊢
        clear nq osq
        go_wp2_with fail
        go_roundw
        case rel => exact ⟨h + 1, j, by go_num, rfl, by omega, by omega, hjb, Lib.hid (.inr (by rw [Nat.add_sub_cancel]; exact Hlv.out)), Hj, S2⟩
        case measure => simp [intOf]; omega
      | false =>
        obtain ⟨x1, hx1⟩ : ∃ x, x = d[h]! := ⟨_, rfl⟩
        obtain ⟨y1, hy1⟩ : ∃ x, x = d[a]! := ⟨_, rfl⟩
        have l1 := S1.out.cl HR.out Hs.out.symm (h) (by omega)
        have l2 := S1.out.cl HR.out Hs.out.symm (a) (by omega)
        rw [← hx1] at l1
        rw [← hy1] at l2
        have hc1 := S1.out.cmp HC.out Hs.out.symm x1 y1
        have hv1 : ¬ cf x1 y1 < 0 := by rw [hx1, hy1]; exact of_decide_eq_false hlv
        have hd1 : decide (cf x1 y1 < 0) = false := decide_eq_false hv1
        have Hlv := Lib.hid hlv
        clear hh
        clear hx1 hy1 hlv
        go_wp2_with fail
        go_quiet_grown (first | (go_at_fn g; refine Calls.grown_of (hc1 _ _)))
        have S2 : Aside (SW enc w0 blk off d (grow (wr.drewN nq) osq)) := S1.out.grown nq osq
        clear l1 l2 hc1 S1
        generalize grow (wr.drewN nq) osq = w2 at S2 ⊢
        clear nq osq
        go_wp2_with fail
        go_roundw
        case rel => exact ⟨i, h, rfl, rfl, hmi, by omega, by omega, Hi, Lib.hid (.inr Hlv.out), S2⟩
        case measure => simp [intOf]; omega
    · obtain rfl : i = j := by omega
      have iij : ¬ (i : Int) < (i : Int) := by omega
      go_wp2_with fail
      go_loopw [13] (fun t13 wr => ∃ (k : Nat) (dk : Array α), t13 = .int .i64 k ∧ a ≤ k ∧ k + 1 ≤ i ∧ dk.size = d.size ∧ Hid (PermIn a b d dk) ∧ Hid (Rot a (a + 1) (k + 1) d dk) ∧ Aside (SW enc w0 blk off dk wr)) (fun t13 _ => i - (intOf t13).toNat)
      case atStart => exact ⟨a, d, rfl, Nat.le_refl _, by omega, rfl, Lib.hid (permIn_refl _ _ _), Lib.hid (Rot.none2 d a (a + 1) (by omega)), S1⟩
      case round =>
        clear S1
        obtain ⟨k, dk, rfl, hak, hki, hdk, HP, Hr, S1⟩ := hrel
        have Hdk := Lib.hid hdk
        clear hdk
        by_cases hlt : k + 1 < i
        · have g1 : (k : Int) < (i : Int) - 1 := by omega
          obtain ⟨jN, hjN⟩ : ∃ q, q = k + 1 := ⟨_, rfl⟩
          have eb : ((k : Int) + 1).toNat = jN := by omega
          have pb : (0 : Int) ≤ (k : Int) + 1 := by omega
          have bb : (k : Int) + 1 < (d.size : Int) := by omega
          have rb : IntKind.i64.wrap ((k : Int) + 1) = (k : Int) + 1 := by rw [IntKind.wrap_i64]; omega
          have pa : (0 : Int) ≤ (k : Int) := by omega
          have ba : (k : Int) < (d.size : Int) := by omega
          have HjN := Lib.hid hjN
          have hjd : jN < d.size := by omega
          clear hjN
          obtain ⟨x1, hx1⟩ : ∃ x, x = dk[k]! := ⟨_, rfl⟩
          obtain ⟨y1, hy1⟩ : ∃ x, x = dk[jN]! := ⟨_, rfl⟩
          have S3 : Aside (SW enc w0 blk off (swp dk k jN) ((wr.setCell ⟨blk, off + k, none⟩ (enc y1)).setCell ⟨blk, off + jN, none⟩ (enc x1)).drew) := by rw [hx1, hy1]; exact S1.out.swapped HR.out k jN (by have := Hdk.out; omega) (by have := Hdk.out; omega)
          have hsd : dk.size = d0.size := by rw [Hdk.out]; exact Hs.out.symm
          have c1a := S1.out.c1 HR.out hsd k (by have := Hdk.out; omega)
          have c1b := S1.out.c1 HR.out hsd jN (by have := Hdk.out; omega)
          have f1a := S1.out.f1 HR.out hsd k (by have := Hdk.out; omega)
          have f1b := S1.out.f1 HR.out hsd jN (by have := Hdk.out; omega)
          obtain ⟨u1, c1c⟩ := S1.out.c2 HR.out hsd k jN (by have := Hdk.out; omega) (by have := Hdk.out; omega) (enc y1)
          rw [← hx1] at c1a
          rw [← hy1] at c1b
          clear S1 hx1 hy1 hsd
          go_wp2_with fail
          go_big_region_o
          clear c1a c1b c1c f1a f1b
          generalize ((wr.setCell ⟨blk, off + k, none⟩ (enc y1)).setCell ⟨blk, off + jN, none⟩ (enc x1)).drew = w3 at S3 ⊢
          clear eb
          go_wp2_with fail
          go_roundw
          case rel => exact ⟨k + 1, swp dk k jN, by go_num, by omega, by omega, by rw [size_swp]; exact Hdk.out, Lib.hid (permIn_trans _ _ _ _ _ HP.out (swp_permIn _ _ _ _ _ (by omega) (by omega) (by have := HjN.out; omega) (by have := HjN.out; omega) (by have := Hdk.out; omega))), Lib.hid (by rw [HjN.out]; exact Rot.up hak (by have := Hdk.out; omega) Hr.out), S3⟩
          case measure => simp [intOf]; omega
        · have g1 : ¬ (k : Int) < (i : Int) - 1 := by omega
          obtain rfl : i = k + 1 := by omega
          have hpost : SymPost enc (ltOf cf) w0 blk off a b d (.returned (.tuple #[])) wr := ⟨rfl, dk, HP.out, merge1 HO.out (by rw [← Hm.out]; exact Hs2.out) (by omega) (by omega) Hr.out (by rw [← Hm.out]; exact Hi.out) Hj.out, S1.out⟩
          clear S1
          have Hpost := Lib.hid hpost
          clear hpost
          go_wp2_with fail
          go_end0
          exact Hpost.out
set_option maxHeartbeats 16000000 in
set_option maxRecDepth 1000000 in
theorem symMerge2_s (enc : α → Value) (cf : α → α → Int) (hO : SWO (ltOf cf)) (g : Nat) (cb : Array Value) (blk off cap a m b : Nat) (d0 d : Array α) (w0 w : World)
    (eg : ∀ args w, (callFunc g args).run Tryz.prog w = .ok (.enter g args) w) (hcmp : CmpLays1 Tryz.prog g cb enc cf blk off d0.size w0) (R : Go.Proofs.Row1 enc w0 blk off d0) (hs : d0.size = d.size) (S : SW enc w0 blk off d w) (ham : a < m) (hmb : m < b) (hb : b ≤ d.size) (hsz : d.size < 4611686018427387904)
    (hs1 : SortedIn (ltOf cf) a m d) (hs2 : SortedIn (ltOf cf) m b d) (hm : m ≠ a + 1) (hbm : b = m + 1) :
    Calls Tryz.prog 95 #[.slice (some ⟨blk, off, none⟩) d.size cap, .int .i64 a, .int .i64 m, .int .i64 b, .func (.func g) #[] cb] w (SymPost enc (ltOf cf) w0 blk off a b d) := by
  have mixed : Tryz.prog.follows .mixedOrders = true := by kernel_rfl
  have hcl0 := R.hO.cells
  simp only [Value.cells] at hcl0
  have hst := R.hO.store Tryz.prog
  have S0 : Aside (SW enc w0 blk off d w) := S
  have HC : Aside _ := hcmp
  have HR := Lib.hid R
  have HO := Lib.hid hO
  have Hs1 := Lib.hid hs1
  have Hs2 := Lib.hid hs2
  have Hs := Lib.hid hs
  have hszI : (d.size : Int) < 4611686018427387904 := by omega
  have hbI : (b : Int) ≤ (d.size : Int) := by omega
  clear S hcmp R hs1 hs2 hO hs
  obtain ⟨q, hq⟩ : ∃ q, q = m - a := ⟨_, rfl⟩
  have e1 : (m : Int) - (a : Int) = (q : Int) := by omega
  have g0 : ((q : Int) == 1) = false := by simp; omega
  have e2 : (b : Int) - (m : Int) = 1 := by omega
  have Hm := Lib.hid hm
  have Hbm := Lib.hid hbm
  clear hm hq hbm
  go_enter Tryz.func95, Tryz.ntmps95
  go_wp2_with fail
  clear e1 e2 g0
  go_loopw [14, 15] (fun t14 t15 wr => ∃ (i j : Nat), t14 = .int .i64 i ∧ t15 = .int .i64 j ∧ a ≤ i ∧ i ≤ j ∧ j ≤ m ∧ Hid (i = a ∨ ltOf cf d[m]! d[i - 1]! = false) ∧ Hid (j = m ∨ ltOf cf d[m]! d[j]! = true) ∧ Aside (SW enc w0 blk off d wr)) (fun t14 t15 _ => (intOf t15).toNat - (intOf t14).toNat)
  case atStart => exact ⟨a, m, rfl, rfl, Nat.le_refl _, by omega, Nat.le_refl _, Lib.hid (.inl rfl), Lib.hid (.inl rfl), S0⟩
  case round =>
    clear S0
    obtain ⟨i, j, rfl, rfl, hai, hij, hjm, Hi, Hj, S1⟩ := hrel
    by_cases hlt : i < j
    · have iij : (i : Int) < (j : Int) := by omega
      obtain ⟨h, hh⟩ : ∃ q, q = (i + j) / 2 := ⟨_, rfl⟩
      have w1 : IntKind.i64.wrap ((i : Int) + (j : Int)) = (i : Int) + (j : Int) := wrapOk (by omega) (by omega)
      have w2 : IntKind.u64.wrap ((i : Int) + (j : Int)) = (i : Int) + (j : Int) := wrapU (by omega) (by omega)
      have w3 : ((i : Int) + (j : Int)) / 2 = (h : Int) := by omega
      have h1h : i ≤ h ∧ h < j := by omega
      have zzh : (0 : Int) ≤ (h : Int) := by omega
      have zlh : (h : Int) < (d.size : Int) := by omega
      have za : (0 : Int) ≤ (m : Int) := by omega
      have zla : (m : Int) < (d.size : Int) := by omega
      cases hlv : ltOf cf d[m]! d[h]! with
      | true =>
        obtain ⟨x1, hx1⟩ : ∃ x, x = d[m]! := ⟨_, rfl⟩
        obtain ⟨y1, hy1⟩ : ∃ x, x = d[h]! := ⟨_, rfl⟩
        have l1 := S1.out.cl HR.out Hs.out.symm (m) (by omega)
        have l2 := S1.out.cl HR.out Hs.out.symm (h) (by omega)
        rw [← hx1] at l1
        rw [← hy1] at l2
        have hc1 := S1.out.cmp HC.out Hs.out.symm x1 y1
        have hv1 : cf x1 y1 < 0 := by rw [hx1, hy1]; exact of_decide_eq_true hlv
        have hd1 : decide (cf x1 y1 < 0) = true := decide_eq_true hv1
        have Hlv := Lib.hid hlv
        clear hh
        clear hx1 hy1 hlv
        go_wp2_with fail
        go_quiet_grown (first | (go_at_fn g; refine Calls.grown_of (hc1 _ _)))
        have S2 : Aside (SW enc w0 blk off d (grow (wr.drewN nq) osq)) := S1.out.grown nq osq
        clear l1 l2 hc1 S1
        generalize grow (wr.drewN nq) osq = w2 at S2 ⊢
        clear nq osq
        go_wp2_with fail
        go_roundw
        case rel => exact ⟨i, h, rfl, rfl, hai, by omega, by omega, Hi, Lib.hid (.inr Hlv.out), S2⟩
        case measure => simp [intOf]; omega
      | false =>
        obtain ⟨x1, hx1⟩ : ∃ x, x = d[m]! := ⟨_, rfl⟩
        obtain ⟨y1, hy1⟩ : ∃ x, x = d[h]! := ⟨_, rfl⟩
        have l1 := S1.out.cl HR.out Hs.out.symm (m) (by omega)
        have l2 := S1.out.cl HR.out Hs.out.symm (h) (by omega)
        rw [← hx1] at l1
        rw [← hy1] at l2
        have hc1 := S1.out.cmp HC.out Hs.out.symm x1 y1
        have hv1 : ¬ cf x1 y1 < 0 := by rw [hx1, hy1]; exact of_decide_eq_false hlv
        have hd1 : decide (cf x1 y1 < 0) = false := decide_eq_false hv1
        have Hlv := Lib.hid hlv
        clear hh
        clear hx1 hy1 hlv
        go_wp2_with fail
        go_quiet_grown (first | (go_at_fn g; refine Calls.grown_of (hc1 _ _)))
        have S2 : Aside (SW enc w0 blk off d (grow (wr.drewN nq) osq)) := S1.out.grown nq osq
        clear l1 l2 hc1 S1
        generalize grow (wr.drewN nq) osq = w2 at S2 ⊢
        clear nq osq
        go_wp2_with fail
        go_roundw
        case rel => exact ⟨h + 1, j, by go_num, rfl, by omega, by omega, hjm, Lib.hid (.inr (by rw [Nat.add_sub_cancel]; exact Hlv.out)), Hj, S2⟩
        case measure => simp [intOf]; omega
    · obtain rfl : i = j := by omega
      have iij : ¬ (i : Int) < (i : Int) := by omega
      go_wp2_with fail
      go_loopw [17] (fun t17 wr => ∃ (k : Nat) (dk : Array α), t17 = .int .i64 k ∧ i ≤ k ∧ k ≤ m ∧ dk.size = d.size ∧ Hid (PermIn a b d dk) ∧ Hid (Rot k m (m + 1) d dk) ∧ Aside (SW enc w0 blk off dk wr)) (fun t17 _ => (intOf t17).toNat)
      case atStart => exact ⟨m, d, rfl, by omega, Nat.le_refl _, rfl, Lib.hid (permIn_refl _ _ _), Lib.hid (Rot.none1 d m (m + 1)), S1⟩
      case round =>
        clear S1
        obtain ⟨k, dk, rfl, hik, hkm, hdk, HP, Hr, S1⟩ := hrel
        have Hdk := Lib.hid hdk
        clear hdk
        by_cases hlt : i < k
        · have g1 : (i : Int) < (k : Int) := by omega
          obtain ⟨jN, hjN⟩ : ∃ q, q = k - 1 := ⟨_, rfl⟩
          have eb : (k : Int) - 1 = (jN : Int) := by omega
          have pb : (0 : Int) ≤ (jN : Int) := by omega
          have bb : (jN : Int) < (d.size : Int) := by omega
          have pa : (0 : Int) ≤ (k : Int) := by omega
          have ba : (k : Int) < (d.size : Int) := by omega
          have HjN := Lib.hid hjN
          have hjd : jN < d.size := by omega
          clear hjN
          obtain ⟨x1, hx1⟩ : ∃ x, x = dk[k]! := ⟨_, rfl⟩
          obtain ⟨y1, hy1⟩ : ∃ x, x = dk[jN]! := ⟨_, rfl⟩
          have S3 : Aside (SW enc w0 blk off (swp dk k jN) ((wr.setCell ⟨blk, off + k, none⟩ (enc y1)).setCell ⟨blk, off + jN, none⟩ (enc x1)).drew) := by rw [hx1, hy1]; exact S1.out.swapped HR.out k jN (by have := Hdk.out; omega) (by have := Hdk.out; omega)
          have hsd : dk.size = d0.size := by rw [Hdk.out]; exact Hs.out.symm
          have c1a := S1.out.c1 HR.out hsd k (by have := Hdk.out; omega)
          have c1b := S1.out.c1 HR.out hsd jN (by have := Hdk.out; omega)
          have f1a := S1.out.f1 HR.out hsd k (by have := Hdk.out; omega)
          have f1b := S1.out.f1 HR.out hsd jN (by have := Hdk.out; omega)
          obtain ⟨u1, c1c⟩ := S1.out.c2 HR.out hsd k jN (by have := Hdk.out; omega) (by have := Hdk.out; omega) (enc y1)
          rw [← hx1] at c1a
          rw [← hy1] at c1b
          clear S1 hx1 hy1 hsd
          go_wp2_with fail
          go_big_region_o
          clear c1a c1b c1c f1a f1b
          generalize ((wr.setCell ⟨blk, off + k, none⟩ (enc y1)).setCell ⟨blk, off + jN, none⟩ (enc x1)).drew = w3 at S3 ⊢
          go_wp2_with fail
          clear eb
          go_roundw
          case rel => exact ⟨jN, swp dk k jN, rfl, by have := HjN.out; omega, by have := HjN.out; omega, by rw [size_swp]; exact Hdk.out, Lib.hid (permIn_trans _ _ _ _ _ HP.out (swp_permIn _ _ _ _ _ (by omega) (by omega) (by have := HjN.out; omega) (by have := HjN.out; omega) (by have := Hdk.out; omega))), Lib.hid (by rw [HjN.out]; exact Rot.down (by omega) hkm (by have := Hdk.out; omega) Hr.out), S3⟩
          case measure => have := HjN.out; simp [intOf]; omega
        · have g1 : ¬ (i : Int) < (k : Int) := by omega
          obtain rfl : i = k := by omega
          have hpost : SymPost enc (ltOf cf) w0 blk off a b d (.returned (.tuple #[])) wr := ⟨rfl, dk, HP.out, by rw [Hbm.out]; exact merge2 HO.out Hs1.out (by omega) (by omega) Hr.out Hi.out Hj.out, S1.out⟩
          clear S1
          have Hpost := Lib.hid hpost
          clear hpost
          go_wp2_with fail
          go_end0
          exact Hpost.out
end Go.Proofs.YtmconajkgjfplaaGreat
end

/- The library's merge in place, at rows' headers: the great case, and all. (Printed by stb.py.) -/
section
set_option linter.unusedVariables false
set_option linter.unusedSimpArgs false
namespace Go.Proofs.YtmconajkgjfplaaGreat
open Go.RowKit Go.Sort Go.Shelf
set_option linter.unusedVariables false
set_option linter.unusedSimpArgs false
variable {α : Type} [Inhabited α]

set_option maxHeartbeats 64000000 in
set_option maxRecDepth 1000000 in
theorem symMergeG_s (enc : α → Value) (cf : α → α → Int) (hO : SWO (ltOf cf)) (N g : Nat) (cb : Array Value) (blk off cap a m b : Nat) (d0 d : Array α) (w0 w : World)
    (eg : ∀ args w, (callFunc g args).run Tryz.prog w = .ok (.enter g args) w) (hcmp : CmpLays1 Tryz.prog g cb enc cf blk off d0.size w0) (R : Go.Proofs.Row1 enc w0 blk off d0) (hs : d0.size = d.size) (S : SW enc w0 blk off d w) (ham : a < m) (hmb : m < b) (hb : b ≤ d.size) (hsz : d.size < 4611686018427387904)
    (hs1 : SortedIn (ltOf cf) a m d) (hs2 : SortedIn (ltOf cf) m b d) (hm1 : m ≠ a + 1) (hm2 : b ≠ m + 1)
    (ih : ∀ (a m b : Nat) (d : Array α) (w : World) (hs : d0.size = d.size) (S : SW enc w0 blk off d w) (ham : a < m) (hmb : m < b) (hb : b ≤ d.size) (hsz : d.size < 4611686018427387904) (hs1 : SortedIn (ltOf cf) a m d) (hs2 : SortedIn (ltOf cf) m b d), b - a < N → Calls Tryz.prog 95 #[.slice (some ⟨blk, off, none⟩) d.size cap, .int .i64 a, .int .i64 m, .int .i64 b, .func (.func g) #[] cb] w (SymPost enc (ltOf cf) w0 blk off a b d)) (hN : b - a ≤ N) :
    Calls Tryz.prog 95 #[.slice (some ⟨blk, off, none⟩) d.size cap, .int .i64 a, .int .i64 m, .int .i64 b, .func (.func g) #[] cb] w (SymPost enc (ltOf cf) w0 blk off a b d) := by
  have mixed : Tryz.prog.follows .mixedOrders = true := by kernel_rfl
  have hcl0 := R.hO.cells
  simp only [Value.cells] at hcl0
  have hst := R.hO.store Tryz.prog
  have S0 : Aside (SW enc w0 blk off d w) := S
  have HC : Aside _ := hcmp
  have HR := Lib.hid R
  have HO := Lib.hid hO
  have Hs1 := Lib.hid hs1
  have Hs2 := Lib.hid hs2
  have Hs := Lib.hid hs
  have hszI : (d.size : Int) < 4611686018427387904 := by omega
  have hbI : (b : Int) ≤ (d.size : Int) := by omega
  clear S hcmp R hs1 hs2 hO hs
  have ih := fun a' m' b' d' w' h1 h2 h3 h4 h5 h6 h7 h8 h9 => ih a' m' b' d' w' h1 h2 h3 h4 h5 h6 h7 h8 h9
  obtain ⟨q1, hq1⟩ : ∃ q, q = m - a := ⟨_, rfl⟩
  have e1 : (m : Int) - (a : Int) = (q1 : Int) := by omega
  have g0 : ((q1 : Int) == 1) = false := by simp; omega
  obtain ⟨q2, hq2⟩ : ∃ q, q = b - m := ⟨_, rfl⟩
  have e2 : (b : Int) - (m : Int) = (q2 : Int) := by omega
  have g1 : ((q2 : Int) == 1) = false := by simp; omega
  obtain ⟨mid, hmid⟩ : ∃ q, q = (a + b) / 2 := ⟨_, rfl⟩
  have w1 : IntKind.i64.wrap ((a : Int) + (b : Int)) = (a : Int) + (b : Int) := wrapOk (by omega) (by omega)
  have w2 : IntKind.u64.wrap ((a : Int) + (b : Int)) = (a : Int) + (b : Int) := wrapU (by omega) (by omega)
  have w3 : ((a : Int) + (b : Int)) / 2 = (mid : Int) := by omega
  have h1mid : a ≤ mid ∧ mid < b := by omega
  have zzmid : (0 : Int) ≤ (mid : Int) := by omega
  have zlmid : (mid : Int) < (d.size : Int) := by omega
  obtain ⟨n, hn⟩ : ∃ n, n = mid + m := ⟨_, rfl⟩
  have e3 : (mid : Int) + (m : Int) = (n : Int) := by omega
  have hmidb : 2 * mid ≤ a + b ∧ a + b ≤ 2 * mid + 1 := by omega
  obtain ⟨p, hp⟩ : ∃ p, p = n - 1 := ⟨_, rfl⟩
  have e4 : (n : Int) - 1 = (p : Int) := by omega
  have hcase : ∃ lo hi : Nat, (m > mid → lo = n - b ∧ hi = mid) ∧ (¬ m > mid → lo = a ∧ hi = m) ∧ a ≤ lo ∧ lo ≤ hi ∧ hi ≤ m ∧ hi ≤ mid ∧ n ≤ b + lo ∧ lo ≤ n := by
    by_cases hc : m > mid
    · exact ⟨n - b, mid, fun _ => ⟨rfl, rfl⟩, fun h => absurd hc h, by omega, by omega, by omega, by omega, by omega, by omega⟩
    · exact ⟨a, m, fun h => absurd h hc, fun _ => ⟨rfl, rfl⟩, by omega, by omega, by omega, by omega, by omega, by omega⟩
  obtain ⟨lo, hi, hc1, hc2, hal, hlh, hhm, hhmid, hnl, hln⟩ := hcase
  have Hc1 := Lib.hid hc1
  have Hc2 := Lib.hid hc2
  have Hn := Lib.hid hn
  have Hp := Lib.hid hp
  have hmidb2 : mid < b ∧ a < mid := by omega
  have Hmb := Lib.hid hmidb2
  clear hq1 hq2 hn hp hmid hmidb hmidb2 hc1 hc2
  by_cases hm : m > mid
  · have hc := Hc1.out hm
    obtain ⟨hl0, hh0⟩ := hc
    have e5 : (n : Int) - (b : Int) = (lo : Int) := by have := Hn.out; omega
    have g2 : (mid : Int) < (m : Int) := by omega
    have Hh0 := Lib.hid hh0
    have Hl0 : Hid (lo = lo) := Lib.hid rfl
    clear hl0 hh0
    clear hm hm1 hm2
    go_enter Tryz.func95, Tryz.ntmps95
    go_wp2_with fail
    clear e1 e2 g0 g1 e3 e4 g2
    go_loopw [20, 21] (fun t20 t21 wr => ∃ (s r : Nat), t20 = .int .i64 s ∧ t21 = .int .i64 r ∧ lo ≤ s ∧ s ≤ r ∧ r ≤ hi ∧ Hid (s = lo ∨ ltOf cf d[n - s]! d[s - 1]! = false) ∧ Hid (r = hi ∨ ltOf cf d[n - 1 - r]! d[r]! = true) ∧ Aside (SW enc w0 blk off d wr)) (fun t20 t21 _ => (intOf t21).toNat - (intOf t20).toNat)
    case atStart => exact ⟨lo, hi, by first | rfl | rw [Hl0.out], by rw [Hh0.out], Nat.le_refl _, hlh, Nat.le_refl _, Lib.hid (.inl rfl), Lib.hid (.inl rfl), S0⟩
    case round =>
      clear S0
      obtain ⟨s, r, rfl, rfl, hls, hsr, hrh, Hlo, Hhi, S1⟩ := hrel
      by_cases hlt : s < r
      · have iij : (s : Int) < (r : Int) := by omega
        have hrd : r < d.size := by omega
        obtain ⟨h, hh⟩ : ∃ q, q = (s + r) / 2 := ⟨_, rfl⟩
        have w1 : IntKind.i64.wrap ((s : Int) + (r : Int)) = (s : Int) + (r : Int) := wrapOk (by omega) (by omega)
        have w2 : IntKind.u64.wrap ((s : Int) + (r : Int)) = (s : Int) + (r : Int) := wrapU (by omega) (by omega)
        have w3 : ((s : Int) + (r : Int)) / 2 = (h : Int) := by omega
        have h1h : s ≤ h ∧ h < r := by omega
        have zzh : (0 : Int) ≤ (h : Int) := by omega
        have zlh : (h : Int) < (d.size : Int) := by omega
        obtain ⟨pc, hpc⟩ : ∃ q, q = p - h := ⟨_, rfl⟩
        have e5 : (p : Int) - (h : Int) = (pc : Int) := by have := Hp.out; have := Hn.out; omega
        have zpc : (0 : Int) ≤ (pc : Int) := by omega
        have hpcd : pc < d.size := by have := Hp.out; have := Hn.out; omega
        have zlpc : (pc : Int) < (d.size : Int) := by omega
        have r6 : IntKind.i64.wrap (pc : Int) = (pc : Int) := by rw [IntKind.wrap_i64]; omega
        have r5 : IntKind.i64.wrap ((p : Int) - (h : Int)) = (pc : Int) := by rw [e5]; exact r6
        have HpA : Hid (pc = n - (h + 1) ∧ pc = n - 1 - h) := Lib.hid (by have := Hp.out; omega)
        clear hpc
        cases hlv : ltOf cf d[pc]! d[h]! with
        | true =>
          obtain ⟨x1, hx1⟩ : ∃ x, x = d[pc]! := ⟨_, rfl⟩
          obtain ⟨y1, hy1⟩ : ∃ x, x = d[h]! := ⟨_, rfl⟩
          have l1 := S1.out.cl HR.out Hs.out.symm (pc) (by omega)
          have l2 := S1.out.cl HR.out Hs.out.symm (h) (by omega)
          rw [← hx1] at l1
          rw [← hy1] at l2
          have hc1 := S1.out.cmp HC.out Hs.out.symm x1 y1
          have hv1 : cf x1 y1 < 0 := by rw [hx1, hy1]; exact of_decide_eq_true hlv
          have hd1 : decide (cf x1 y1 < 0) = true := decide_eq_true hv1
          have Hlv := Lib.hid hlv
          clear hh
          clear hx1 hy1 hlv
          go_wp2_with fail
          go_quiet_grown (first | (go_at_fn g; refine Calls.grown_of (hc1 _ _)))
          have S2 : Aside (SW enc w0 blk off d (grow (wr.drewN nq) osq)) := S1.out.grown nq osq
          clear l1 l2 hc1 S1
          generalize grow (wr.drewN nq) osq = w2 at S2 ⊢
          clear nq osq
          go_wp2_with fail
          go_roundw
          case rel => exact ⟨s, h, rfl, rfl, hls, by omega, by omega, Hlo, Lib.hid (.inr (by rw [← HpA.out.2]; exact Hlv.out)), S2⟩
          case measure => simp [intOf]; omega
        | false =>
          obtain ⟨x1, hx1⟩ : ∃ x, x = d[pc]! := ⟨_, rfl⟩
          obtain ⟨y1, hy1⟩ : ∃ x, x = d[h]! := ⟨_, rfl⟩
          have l1 := S1.out.cl HR.out Hs.out.symm (pc) (by omega)
          have l2 := S1.out.cl HR.out Hs.out.symm (h) (by omega)
          rw [← hx1] at l1
          rw [← hy1] at l2
          have hc1 := S1.out.cmp HC.out Hs.out.symm x1 y1
          have hv1 : ¬ cf x1 y1 < 0 := by rw [hx1, hy1]; exact of_decide_eq_false hlv
          have hd1 : decide (cf x1 y1 < 0) = false := decide_eq_false hv1
          have Hlv := Lib.hid hlv
          clear hh
          clear hx1 hy1 hlv
          go_wp2_with fail
          go_quiet_grown (first | (go_at_fn g; refine Calls.grown_of (hc1 _ _)))
          have S2 : Aside (SW enc w0 blk off d (grow (wr.drewN nq) osq)) := S1.out.grown nq osq
          clear l1 l2 hc1 S1
          generalize grow (wr.drewN nq) osq = w2 at S2 ⊢
          clear nq osq
          go_wp2_with fail
          go_roundw
          case rel => exact ⟨h + 1, r, by go_num, rfl, by omega, by omega, hrh, Lib.hid (.inr (by rw [Nat.add_sub_cancel, ← HpA.out.1]; exact Hlv.out)), Hhi, S2⟩
          case measure => simp [intOf]; omega
      · obtain rfl : s = r := by omega
        have iij : ¬ (s : Int) < (s : Int) := by omega
        obtain ⟨e, he⟩ : ∃ e, e = n - s := ⟨_, rfl⟩
        have e6 : (n : Int) - (s : Int) = (e : Int) := by have := Hn.out; omega
        have hS : a ≤ s ∧ s ≤ m ∧ s ≤ mid ∧ m ≤ e ∧ e ≤ b ∧ s + (e - m) = mid := by have := Hn.out; omega
        obtain ⟨h_as, h_sm, h_smid, h_me, h_eb, h_mid⟩ := hS
        have Hmid := Lib.hid h_mid
        have Hlo2 : Hid (s = a ∨ e = b ∨ ltOf cf d[e]! d[s - 1]! = false) := Lib.hid (by
          rcases Hlo.out with h | h
          · by_cases hc : m > mid
            · have := Hc1.out hc; have := Hn.out; exact .inr (.inl (by omega))
            · have := Hc2.out hc; exact .inl (by omega)
          · exact .inr (.inr (by rw [he]; exact h)))
        have Hhi2 : Hid (m = e ∨ s = m ∨ ltOf cf d[e - 1]! d[s]! = true) := Lib.hid (by
          rcases Hhi.out with h | h
          · by_cases hc : m > mid
            · have := Hc1.out hc; have := Hn.out; exact .inl (by omega)
            · have := Hc2.out hc; exact .inr (.inl (by omega))
          · exact .inr (.inr (by rw [he, show n - s - 1 = n - 1 - s by omega]; exact h)))
        have he3 : e ≤ mid + (m - s) ∧ mid + m = e + s := by have := Hn.out; omega
        have He3 := Lib.hid he3
        clear he h_mid he3
        by_cases r1 : s < m
        · have z1 : (s : Int) < (m : Int) := by omega
          by_cases r2 : m < e
          · have z2 : (m : Int) < (e : Int) := by omega
            have hr := rotate_s enc blk off cap s m e d0 d w0 wr (.func (.func g) #[] cb) HR.out Hs.out S1.out r1 r2 (by omega) hsz
            have Hro := Lib.hid hr
            clear hr
            go_wp2_with fail
            refine Calls.mono Hro.out ?_
            rintro e' w1 ⟨rfl, d1, hP, hrot, hW⟩
            have hP1 : PermIn a b d d1 := permIn_mono _ _ _ _ _ _ h_as h_eb hb hP
            have S1' : Aside _ := hW
            clear S1 hW hP Hro
            have S1 := S1'
            clear S1'
            have HP1 := Lib.hid hP1
            obtain ⟨k1, k2, k3, k4, -, k6⟩ := cutMerge HO.out Hs1.out Hs2.out h_as h_sm h_me h_eb Hmid.out hrot Hlo2.out Hhi2.out
            have K1 := Lib.hid k1
            have K2 := Lib.hid k2
            have K3' := Lib.hid k3
            have K4' := Lib.hid k4
            have Hx := Lib.hid k6
            have Hme2 : Hid (mid ≤ e) := Lib.hid (by have := Hmid.out; omega)
            have hd1 : d1.size = d.size := hP1.1
            clear k1 k2 k3 k4 k6 hP1 hrot
            by_cases c1 : a < s
            · have q1 : (a : Int) < (s : Int) := by omega
              by_cases c2 : s < mid
              · have q2 : (s : Int) < (mid : Int) := by omega
                have hsym := ih a s mid d1 w1 (by rw [hd1]; exact Hs.out) S1.out c1 c2 (by rw [hd1]; have := Hmb.out; omega) (by rw [hd1]; exact hsz) K1.out K2.out (by have := Hmb.out; omega)
                rw [hd1] at hsym
                have Hsym := Lib.hid hsym
                have Hd1 := Lib.hid hd1
                clear hsym hd1
                go_wp2_with fail
                refine Calls.mono Hsym.out ?_
                rintro e' w2 ⟨rfl, d2, hP2, hS2, hW2⟩
                have S2 : Aside _ := hW2
                have hd1 := Hd1.out
                clear S1 hW2 Hsym Hd1
                have HPL : Hid (PermIn a mid d1 d2) := Lib.hid hP2
                have HSL : Hid (SortedIn (ltOf cf) a mid d2) := Lib.hid hS2
                have K3 : Hid (SortedIn (ltOf cf) mid e d2) := Lib.hid (fun i j r1 r2 r3 => by rw [hP2.2.1 i (.inr r1), hP2.2.1 j (.inr (by omega))]; exact K3'.out i j r1 r2 r3)
                have K4 : Hid (SortedIn (ltOf cf) e b d2) := Lib.hid (fun i j r1 r2 r3 => by rw [hP2.2.1 i (.inr (by have := Hme2.out; omega)), hP2.2.1 j (.inr (by have := Hme2.out; omega))]; exact K4'.out i j r1 r2 r3)
                have hd2 : d2.size = d.size := by rw [hP2.1]; exact hd1
                clear hP2 hS2 hd1
                by_cases c3 : mid < e
                · have q3 : (mid : Int) < (e : Int) := by omega
                  by_cases c4 : e < b
                  · have q4 : (e : Int) < (b : Int) := by omega
                    have h3 : mid < e ∧ e < b := ⟨c3, c4⟩
                    have hsym := ih mid e b d2 w2 (by rw [hd2]; exact Hs.out) S2.out c3 c4 (by rw [hd2]; exact hb) (by rw [hd2]; exact hsz) K3.out K4.out (by have := Hmb.out; omega)
                    rw [hd2] at hsym
                    have Hsym := Lib.hid hsym
                    clear hsym hd2 h3
                    go_wp2_with fail
                    refine Calls.mono Hsym.out ?_
                    rintro e' w3 ⟨rfl, d3, hP3, hS3, hW3⟩
                    have hpost : SymPost enc (ltOf cf) w0 blk off a b d (.returned (.tuple #[])) w3 := ⟨rfl, d3, by
                      have k := mergeEnd HO.out (by have := Hmb.out; omega) (by have := Hmb.out; omega) (by rw [HP1.out.1]; exact hb) Hx.out HPL.out HSL.out hP3 hS3
                      exact ⟨permIn_trans _ _ _ _ _ HP1.out k.1, k.2, hW3⟩⟩
                    clear S2 hW3
                    have Hpost := Lib.hid hpost
                    clear hpost
                    go_wp2_with fail
                    go_end0
                    exact Hpost.out
                  · have q4 : ¬ (e : Int) < (b : Int) := by omega
                    have hpost : SymPost enc (ltOf cf) w0 blk off a b d (.returned (.tuple #[])) w2 := ⟨rfl, d2, by
                      have k := mergeEnd HO.out (by have := Hmb.out; omega) (by have := Hmb.out; omega) (by rw [HP1.out.1]; exact hb) Hx.out HPL.out HSL.out (permIn_refl _ _ _) (by rw [show b = e from by omega]; exact K3.out)
                      exact ⟨permIn_trans _ _ _ _ _ HP1.out k.1, k.2, S2.out⟩⟩
                    clear S2 hd2
                    have Hpost := Lib.hid hpost
                    clear hpost
                    go_wp2_with fail
                    go_end0
                    exact Hpost.out
                · have q3 : ¬ (mid : Int) < (e : Int) := by omega
                  have hpost : SymPost enc (ltOf cf) w0 blk off a b d (.returned (.tuple #[])) w2 := ⟨rfl, d2, by
                    have k := mergeEnd HO.out (by have := Hmb.out; omega) (by have := Hmb.out; omega) (by rw [HP1.out.1]; exact hb) Hx.out HPL.out HSL.out (permIn_refl _ _ _) (by rw [show mid = e from by have := Hme2.out; omega]; exact K4.out)
                    exact ⟨permIn_trans _ _ _ _ _ HP1.out k.1, k.2, S2.out⟩⟩
                  clear S2 hd2
                  have Hpost := Lib.hid hpost
                  clear hpost
                  go_wp2_with fail
                  go_end0
                  exact Hpost.out
              · have q2 : ¬ (s : Int) < (mid : Int) := by omega
                obtain ⟨d2, hd⟩ : ∃ x, x = d1 := ⟨_, rfl⟩
                obtain ⟨w2, hw⟩ : ∃ x, x = w1 := ⟨_, rfl⟩
                have hP2 : PermIn a mid d1 d2 := by rw [hd]; exact permIn_refl _ _ _
                have hS2 : SortedIn (ltOf cf) a mid d2 := by rw [hd]; exact (by rw [show mid = s from by omega]; exact K1.out)
                have S2 : Aside (SW enc w0 blk off d2 w2) := by rw [hd, hw]; exact S1
                rw [← hw]
                clear S1 hd hw
                have HPL : Hid (PermIn a mid d1 d2) := Lib.hid hP2
                have HSL : Hid (SortedIn (ltOf cf) a mid d2) := Lib.hid hS2
                have K3 : Hid (SortedIn (ltOf cf) mid e d2) := Lib.hid (fun i j r1 r2 r3 => by rw [hP2.2.1 i (.inr r1), hP2.2.1 j (.inr (by omega))]; exact K3'.out i j r1 r2 r3)
                have K4 : Hid (SortedIn (ltOf cf) e b d2) := Lib.hid (fun i j r1 r2 r3 => by rw [hP2.2.1 i (.inr (by have := Hme2.out; omega)), hP2.2.1 j (.inr (by have := Hme2.out; omega))]; exact K4'.out i j r1 r2 r3)
                have hd2 : d2.size = d.size := by rw [hP2.1]; exact hd1
                clear hP2 hS2 hd1
                by_cases c3 : mid < e
                · have q3 : (mid : Int) < (e : Int) := by omega
                  by_cases c4 : e < b
                  · have q4 : (e : Int) < (b : Int) := by omega
                    have h3 : mid < e ∧ e < b := ⟨c3, c4⟩
                    have hsym := ih mid e b d2 w2 (by rw [hd2]; exact Hs.out) S2.out c3 c4 (by rw [hd2]; exact hb) (by rw [hd2]; exact hsz) K3.out K4.out (by have := Hmb.out; omega)
                    rw [hd2] at hsym
                    have Hsym := Lib.hid hsym
                    clear hsym hd2 h3
                    go_wp2_with fail
                    refine Calls.mono Hsym.out ?_
                    rintro e' w3 ⟨rfl, d3, hP3, hS3, hW3⟩
                    have hpost : SymPost enc (ltOf cf) w0 blk off a b d (.returned (.tuple #[])) w3 := ⟨rfl, d3, by
                      have k := mergeEnd HO.out (by have := Hmb.out; omega) (by have := Hmb.out; omega) (by rw [HP1.out.1]; exact hb) Hx.out HPL.out HSL.out hP3 hS3
                      exact ⟨permIn_trans _ _ _ _ _ HP1.out k.1, k.2, hW3⟩⟩
                    clear S2 hW3
                    have Hpost := Lib.hid hpost
                    clear hpost
                    go_wp2_with fail
                    go_end0
                    exact Hpost.out
                  · have q4 : ¬ (e : Int) < (b : Int) := by omega
                    have hpost : SymPost enc (ltOf cf) w0 blk off a b d (.returned (.tuple #[])) w2 := ⟨rfl, d2, by
                      have k := mergeEnd HO.out (by have := Hmb.out; omega) (by have := Hmb.out; omega) (by rw [HP1.out.1]; exact hb) Hx.out HPL.out HSL.out (permIn_refl _ _ _) (by rw [show b = e from by omega]; exact K3.out)
                      exact ⟨permIn_trans _ _ _ _ _ HP1.out k.1, k.2, S2.out⟩⟩
                    clear S2 hd2
                    have Hpost := Lib.hid hpost
                    clear hpost
                    go_wp2_with fail
                    go_end0
                    exact Hpost.out
                · have q3 : ¬ (mid : Int) < (e : Int) := by omega
                  have hpost : SymPost enc (ltOf cf) w0 blk off a b d (.returned (.tuple #[])) w2 := ⟨rfl, d2, by
                    have k := mergeEnd HO.out (by have := Hmb.out; omega) (by have := Hmb.out; omega) (by rw [HP1.out.1]; exact hb) Hx.out HPL.out HSL.out (permIn_refl _ _ _) (by rw [show mid = e from by have := Hme2.out; omega]; exact K4.out)
                    exact ⟨permIn_trans _ _ _ _ _ HP1.out k.1, k.2, S2.out⟩⟩
                  clear S2 hd2
                  have Hpost := Lib.hid hpost
                  clear hpost
                  go_wp2_with fail
                  go_end0
                  exact Hpost.out
            · have q1 : ¬ (a : Int) < (s : Int) := by omega
              obtain ⟨d2, hd⟩ : ∃ x, x = d1 := ⟨_, rfl⟩
              obtain ⟨w2, hw⟩ : ∃ x, x = w1 := ⟨_, rfl⟩
              have hP2 : PermIn a mid d1 d2 := by rw [hd]; exact permIn_refl _ _ _
              have hS2 : SortedIn (ltOf cf) a mid d2 := by rw [hd]; exact (by rw [show a = s from by omega]; exact K2.out)
              have S2 : Aside (SW enc w0 blk off d2 w2) := by rw [hd, hw]; exact S1
              rw [← hw]
              clear S1 hd hw
              have HPL : Hid (PermIn a mid d1 d2) := Lib.hid hP2
              have HSL : Hid (SortedIn (ltOf cf) a mid d2) := Lib.hid hS2
              have K3 : Hid (SortedIn (ltOf cf) mid e d2) := Lib.hid (fun i j r1 r2 r3 => by rw [hP2.2.1 i (.inr r1), hP2.2.1 j (.inr (by omega))]; exact K3'.out i j r1 r2 r3)
              have K4 : Hid (SortedIn (ltOf cf) e b d2) := Lib.hid (fun i j r1 r2 r3 => by rw [hP2.2.1 i (.inr (by have := Hme2.out; omega)), hP2.2.1 j (.inr (by have := Hme2.out; omega))]; exact K4'.out i j r1 r2 r3)
              have hd2 : d2.size = d.size := by rw [hP2.1]; exact hd1
              clear hP2 hS2 hd1
              by_cases c3 : mid < e
              · have q3 : (mid : Int) < (e : Int) := by omega
                by_cases c4 : e < b
                · have q4 : (e : Int) < (b : Int) := by omega
                  have h3 : mid < e ∧ e < b := ⟨c3, c4⟩
                  have hsym := ih mid e b d2 w2 (by rw [hd2]; exact Hs.out) S2.out c3 c4 (by rw [hd2]; exact hb) (by rw [hd2]; exact hsz) K3.out K4.out (by have := Hmb.out; omega)
                  rw [hd2] at hsym
                  have Hsym := Lib.hid hsym
                  clear hsym hd2 h3
                  go_wp2_with fail
                  refine Calls.mono Hsym.out ?_
                  rintro e' w3 ⟨rfl, d3, hP3, hS3, hW3⟩
                  have hpost : SymPost enc (ltOf cf) w0 blk off a b d (.returned (.tuple #[])) w3 := ⟨rfl, d3, by
                    have k := mergeEnd HO.out (by have := Hmb.out; omega) (by have := Hmb.out; omega) (by rw [HP1.out.1]; exact hb) Hx.out HPL.out HSL.out hP3 hS3
                    exact ⟨permIn_trans _ _ _ _ _ HP1.out k.1, k.2, hW3⟩⟩
                  clear S2 hW3
                  have Hpost := Lib.hid hpost
                  clear hpost
                  go_wp2_with fail
                  go_end0
                  exact Hpost.out
                · have q4 : ¬ (e : Int) < (b : Int) := by omega
                  have hpost : SymPost enc (ltOf cf) w0 blk off a b d (.returned (.tuple #[])) w2 := ⟨rfl, d2, by
                    have k := mergeEnd HO.out (by have := Hmb.out; omega) (by have := Hmb.out; omega) (by rw [HP1.out.1]; exact hb) Hx.out HPL.out HSL.out (permIn_refl _ _ _) (by rw [show b = e from by omega]; exact K3.out)
                    exact ⟨permIn_trans _ _ _ _ _ HP1.out k.1, k.2, S2.out⟩⟩
                  clear S2 hd2
                  have Hpost := Lib.hid hpost
                  clear hpost
                  go_wp2_with fail
                  go_end0
                  exact Hpost.out
              · have q3 : ¬ (mid : Int) < (e : Int) := by omega
                have hpost : SymPost enc (ltOf cf) w0 blk off a b d (.returned (.tuple #[])) w2 := ⟨rfl, d2, by
                  have k := mergeEnd HO.out (by have := Hmb.out; omega) (by have := Hmb.out; omega) (by rw [HP1.out.1]; exact hb) Hx.out HPL.out HSL.out (permIn_refl _ _ _) (by rw [show mid = e from by have := Hme2.out; omega]; exact K4.out)
                  exact ⟨permIn_trans _ _ _ _ _ HP1.out k.1, k.2, S2.out⟩⟩
                clear S2 hd2
                have Hpost := Lib.hid hpost
                clear hpost
                go_wp2_with fail
                go_end0
                exact Hpost.out
          · have z2 : ¬ (m : Int) < (e : Int) := by omega
            obtain ⟨d1, hd⟩ : ∃ x, x = d := ⟨_, rfl⟩
            obtain ⟨w1, hw⟩ : ∃ x, x = wr := ⟨_, rfl⟩
            have hP1 : PermIn a b d d1 := by rw [hd]; exact permIn_refl _ _ _
            have hrot : Rot s m e d d1 := by rw [hd]; exact (by rw [show e = m from by omega]; exact Rot.none2 d s m h_sm)
            have S1' : Aside (SW enc w0 blk off d1 w1) := by rw [hd, hw]; exact S1
            rw [← hw]
            clear S1 hd hw
            have S1 := S1'
            clear S1'
            have HP1 := Lib.hid hP1
            obtain ⟨k1, k2, k3, k4, -, k6⟩ := cutMerge HO.out Hs1.out Hs2.out h_as h_sm h_me h_eb Hmid.out hrot Hlo2.out Hhi2.out
            have K1 := Lib.hid k1
            have K2 := Lib.hid k2
            have K3' := Lib.hid k3
            have K4' := Lib.hid k4
            have Hx := Lib.hid k6
            have Hme2 : Hid (mid ≤ e) := Lib.hid (by have := Hmid.out; omega)
            have hd1 : d1.size = d.size := hP1.1
            clear k1 k2 k3 k4 k6 hP1 hrot
            by_cases c1 : a < s
            · have q1 : (a : Int) < (s : Int) := by omega
              by_cases c2 : s < mid
              · have q2 : (s : Int) < (mid : Int) := by omega
                have hsym := ih a s mid d1 w1 (by rw [hd1]; exact Hs.out) S1.out c1 c2 (by rw [hd1]; have := Hmb.out; omega) (by rw [hd1]; exact hsz) K1.out K2.out (by have := Hmb.out; omega)
                rw [hd1] at hsym
                have Hsym := Lib.hid hsym
                have Hd1 := Lib.hid hd1
                clear hsym hd1
                go_wp2_with fail
                refine Calls.mono Hsym.out ?_
                rintro e' w2 ⟨rfl, d2, hP2, hS2, hW2⟩
                have S2 : Aside _ := hW2
                have hd1 := Hd1.out
                clear S1 hW2 Hsym Hd1
                have HPL : Hid (PermIn a mid d1 d2) := Lib.hid hP2
                have HSL : Hid (SortedIn (ltOf cf) a mid d2) := Lib.hid hS2
                have K3 : Hid (SortedIn (ltOf cf) mid e d2) := Lib.hid (fun i j r1 r2 r3 => by rw [hP2.2.1 i (.inr r1), hP2.2.1 j (.inr (by omega))]; exact K3'.out i j r1 r2 r3)
                have K4 : Hid (SortedIn (ltOf cf) e b d2) := Lib.hid (fun i j r1 r2 r3 => by rw [hP2.2.1 i (.inr (by have := Hme2.out; omega)), hP2.2.1 j (.inr (by have := Hme2.out; omega))]; exact K4'.out i j r1 r2 r3)
                have hd2 : d2.size = d.size := by rw [hP2.1]; exact hd1
                clear hP2 hS2 hd1
                by_cases c3 : mid < e
                · have q3 : (mid : Int) < (e : Int) := by omega
                  by_cases c4 : e < b
                  · have q4 : (e : Int) < (b : Int) := by omega
                    have h3 : mid < e ∧ e < b := ⟨c3, c4⟩
                    have hsym := ih mid e b d2 w2 (by rw [hd2]; exact Hs.out) S2.out c3 c4 (by rw [hd2]; exact hb) (by rw [hd2]; exact hsz) K3.out K4.out (by have := Hmb.out; omega)
                    rw [hd2] at hsym
                    have Hsym := Lib.hid hsym
                    clear hsym hd2 h3
                    go_wp2_with fail
                    refine Calls.mono Hsym.out ?_
                    rintro e' w3 ⟨rfl, d3, hP3, hS3, hW3⟩
                    have hpost : SymPost enc (ltOf cf) w0 blk off a b d (.returned (.tuple #[])) w3 := ⟨rfl, d3, by
                      have k := mergeEnd HO.out (by have := Hmb.out; omega) (by have := Hmb.out; omega) (by rw [HP1.out.1]; exact hb) Hx.out HPL.out HSL.out hP3 hS3
                      exact ⟨permIn_trans _ _ _ _ _ HP1.out k.1, k.2, hW3⟩⟩
                    clear S2 hW3
                    have Hpost := Lib.hid hpost
                    clear hpost
                    go_wp2_with fail
                    go_end0
                    exact Hpost.out
                  · have q4 : ¬ (e : Int) < (b : Int) := by omega
                    have hpost : SymPost enc (ltOf cf) w0 blk off a b d (.returned (.tuple #[])) w2 := ⟨rfl, d2, by
                      have k := mergeEnd HO.out (by have := Hmb.out; omega) (by have := Hmb.out; omega) (by rw [HP1.out.1]; exact hb) Hx.out HPL.out HSL.out (permIn_refl _ _ _) (by rw [show b = e from by omega]; exact K3.out)
                      exact ⟨permIn_trans _ _ _ _ _ HP1.out k.1, k.2, S2.out⟩⟩
                    clear S2 hd2
                    have Hpost := Lib.hid hpost
                    clear hpost
                    go_wp2_with fail
                    go_end0
                    exact Hpost.out
                · have q3 : ¬ (mid : Int) < (e : Int) := by omega
                  have hpost : SymPost enc (ltOf cf) w0 blk off a b d (.returned (.tuple #[])) w2 := ⟨rfl, d2, by
                    have k := mergeEnd HO.out (by have := Hmb.out; omega) (by have := Hmb.out; omega) (by rw [HP1.out.1]; exact hb) Hx.out HPL.out HSL.out (permIn_refl _ _ _) (by rw [show mid = e from by have := Hme2.out; omega]; exact K4.out)
                    exact ⟨permIn_trans _ _ _ _ _ HP1.out k.1, k.2, S2.out⟩⟩
                  clear S2 hd2
                  have Hpost := Lib.hid hpost
                  clear hpost
                  go_wp2_with fail
                  go_end0
                  exact Hpost.out
              · have q2 : ¬ (s : Int) < (mid : Int) := by omega
                obtain ⟨d2, hd⟩ : ∃ x, x = d1 := ⟨_, rfl⟩
                obtain ⟨w2, hw⟩ : ∃ x, x = w1 := ⟨_, rfl⟩
                have hP2 : PermIn a mid d1 d2 := by rw [hd]; exact permIn_refl _ _ _
                have hS2 : SortedIn (ltOf cf) a mid d2 := by rw [hd]; exact (by rw [show mid = s from by omega]; exact K1.out)
                have S2 : Aside (SW enc w0 blk off d2 w2) := by rw [hd, hw]; exact S1
                rw [← hw]
                clear S1 hd hw
                have HPL : Hid (PermIn a mid d1 d2) := Lib.hid hP2
                have HSL : Hid (SortedIn (ltOf cf) a mid d2) := Lib.hid hS2
                have K3 : Hid (SortedIn (ltOf cf) mid e d2) := Lib.hid (fun i j r1 r2 r3 => by rw [hP2.2.1 i (.inr r1), hP2.2.1 j (.inr (by omega))]; exact K3'.out i j r1 r2 r3)
                have K4 : Hid (SortedIn (ltOf cf) e b d2) := Lib.hid (fun i j r1 r2 r3 => by rw [hP2.2.1 i (.inr (by have := Hme2.out; omega)), hP2.2.1 j (.inr (by have := Hme2.out; omega))]; exact K4'.out i j r1 r2 r3)
                have hd2 : d2.size = d.size := by rw [hP2.1]; exact hd1
                clear hP2 hS2 hd1
                by_cases c3 : mid < e
                · have q3 : (mid : Int) < (e : Int) := by omega
                  by_cases c4 : e < b
                  · have q4 : (e : Int) < (b : Int) := by omega
                    have h3 : mid < e ∧ e < b := ⟨c3, c4⟩
                    have hsym := ih mid e b d2 w2 (by rw [hd2]; exact Hs.out) S2.out c3 c4 (by rw [hd2]; exact hb) (by rw [hd2]; exact hsz) K3.out K4.out (by have := Hmb.out; omega)
                    rw [hd2] at hsym
                    have Hsym := Lib.hid hsym
                    clear hsym hd2 h3
                    go_wp2_with fail
                    refine Calls.mono Hsym.out ?_
                    rintro e' w3 ⟨rfl, d3, hP3, hS3, hW3⟩
                    have hpost : SymPost enc (ltOf cf) w0 blk off a b d (.returned (.tuple #[])) w3 := ⟨rfl, d3, by
                      have k := mergeEnd HO.out (by have := Hmb.out; omega) (by have := Hmb.out; omega) (by rw [HP1.out.1]; exact hb) Hx.out HPL.out HSL.out hP3 hS3
                      exact ⟨permIn_trans _ _ _ _ _ HP1.out k.1, k.2, hW3⟩⟩
                    clear S2 hW3
                    have Hpost := Lib.hid hpost
                    clear hpost
                    go_wp2_with fail
                    go_end0
                    exact Hpost.out
                  · have q4 : ¬ (e : Int) < (b : Int) := by omega
                    have hpost : SymPost enc (ltOf cf) w0 blk off a b d (.returned (.tuple #[])) w2 := ⟨rfl, d2, by
                      have k := mergeEnd HO.out (by have := Hmb.out; omega) (by have := Hmb.out; omega) (by rw [HP1.out.1]; exact hb) Hx.out HPL.out HSL.out (permIn_refl _ _ _) (by rw [show b = e from by omega]; exact K3.out)
                      exact ⟨permIn_trans _ _ _ _ _ HP1.out k.1, k.2, S2.out⟩⟩
                    clear S2 hd2
                    have Hpost := Lib.hid hpost
                    clear hpost
                    go_wp2_with fail
                    go_end0
                    exact Hpost.out
                · have q3 : ¬ (mid : Int) < (e : Int) := by omega
                  have hpost : SymPost enc (ltOf cf) w0 blk off a b d (.returned (.tuple #[])) w2 := ⟨rfl, d2, by
                    have k := mergeEnd HO.out (by have := Hmb.out; omega) (by have := Hmb.out; omega) (by rw [HP1.out.1]; exact hb) Hx.out HPL.out HSL.out (permIn_refl _ _ _) (by rw [show mid = e from by have := Hme2.out; omega]; exact K4.out)
                    exact ⟨permIn_trans _ _ _ _ _ HP1.out k.1, k.2, S2.out⟩⟩
                  clear S2 hd2
                  have Hpost := Lib.hid hpost
                  clear hpost
                  go_wp2_with fail
                  go_end0
                  exact Hpost.out
            · have q1 : ¬ (a : Int) < (s : Int) := by omega
              obtain ⟨d2, hd⟩ : ∃ x, x = d1 := ⟨_, rfl⟩
              obtain ⟨w2, hw⟩ : ∃ x, x = w1 := ⟨_, rfl⟩
              have hP2 : PermIn a mid d1 d2 := by rw [hd]; exact permIn_refl _ _ _
              have hS2 : SortedIn (ltOf cf) a mid d2 := by rw [hd]; exact (by rw [show a = s from by omega]; exact K2.out)
              have S2 : Aside (SW enc w0 blk off d2 w2) := by rw [hd, hw]; exact S1
              rw [← hw]
              clear S1 hd hw
              have HPL : Hid (PermIn a mid d1 d2) := Lib.hid hP2
              have HSL : Hid (SortedIn (ltOf cf) a mid d2) := Lib.hid hS2
              have K3 : Hid (SortedIn (ltOf cf) mid e d2) := Lib.hid (fun i j r1 r2 r3 => by rw [hP2.2.1 i (.inr r1), hP2.2.1 j (.inr (by omega))]; exact K3'.out i j r1 r2 r3)
              have K4 : Hid (SortedIn (ltOf cf) e b d2) := Lib.hid (fun i j r1 r2 r3 => by rw [hP2.2.1 i (.inr (by have := Hme2.out; omega)), hP2.2.1 j (.inr (by have := Hme2.out; omega))]; exact K4'.out i j r1 r2 r3)
              have hd2 : d2.size = d.size := by rw [hP2.1]; exact hd1
              clear hP2 hS2 hd1
              by_cases c3 : mid < e
              · have q3 : (mid : Int) < (e : Int) := by omega
                by_cases c4 : e < b
                · have q4 : (e : Int) < (b : Int) := by omega
                  have h3 : mid < e ∧ e < b := ⟨c3, c4⟩
                  have hsym := ih mid e b d2 w2 (by rw [hd2]; exact Hs.out) S2.out c3 c4 (by rw [hd2]; exact hb) (by rw [hd2]; exact hsz) K3.out K4.out (by have := Hmb.out; omega)
                  rw [hd2] at hsym
                  have Hsym := Lib.hid hsym
                  clear hsym hd2 h3
                  go_wp2_with fail
                  refine Calls.mono Hsym.out ?_
                  rintro e' w3 ⟨rfl, d3, hP3, hS3, hW3⟩
                  have hpost : SymPost enc (ltOf cf) w0 blk off a b d (.returned (.tuple #[])) w3 := ⟨rfl, d3, by
                    have k := mergeEnd HO.out (by have := Hmb.out; omega) (by have := Hmb.out; omega) (by rw [HP1.out.1]; exact hb) Hx.out HPL.out HSL.out hP3 hS3
                    exact ⟨permIn_trans _ _ _ _ _ HP1.out k.1, k.2, hW3⟩⟩
                  clear S2 hW3
                  have Hpost := Lib.hid hpost
                  clear hpost
                  go_wp2_with fail
                  go_end0
                  exact Hpost.out
                · have q4 : ¬ (e : Int) < (b : Int) := by omega
                  have hpost : SymPost enc (ltOf cf) w0 blk off a b d (.returned (.tuple #[])) w2 := ⟨rfl, d2, by
                    have k := mergeEnd HO.out (by have := Hmb.out; omega) (by have := Hmb.out; omega) (by rw [HP1.out.1]; exact hb) Hx.out HPL.out HSL.out (permIn_refl _ _ _) (by rw [show b = e from by omega]; exact K3.out)
                    exact ⟨permIn_trans _ _ _ _ _ HP1.out k.1, k.2, S2.out⟩⟩
                  clear S2 hd2
                  have Hpost := Lib.hid hpost
                  clear hpost
                  go_wp2_with fail
                  go_end0
                  exact Hpost.out
              · have q3 : ¬ (mid : Int) < (e : Int) := by omega
                have hpost : SymPost enc (ltOf cf) w0 blk off a b d (.returned (.tuple #[])) w2 := ⟨rfl, d2, by
                  have k := mergeEnd HO.out (by have := Hmb.out; omega) (by have := Hmb.out; omega) (by rw [HP1.out.1]; exact hb) Hx.out HPL.out HSL.out (permIn_refl _ _ _) (by rw [show mid = e from by have := Hme2.out; omega]; exact K4.out)
                  exact ⟨permIn_trans _ _ _ _ _ HP1.out k.1, k.2, S2.out⟩⟩
                clear S2 hd2
                have Hpost := Lib.hid hpost
                clear hpost
                go_wp2_with fail
                go_end0
                exact Hpost.out
        · have z1 : ¬ (s : Int) < (m : Int) := by omega
          obtain ⟨d1, hd⟩ : ∃ x, x = d := ⟨_, rfl⟩
          obtain ⟨w1, hw⟩ : ∃ x, x = wr := ⟨_, rfl⟩
          have hP1 : PermIn a b d d1 := by rw [hd]; exact permIn_refl _ _ _
          have hrot : Rot s m e d d1 := by rw [hd]; exact (by rw [show s = m from by omega]; exact Rot.none1 d m e)
          have S1' : Aside (SW enc w0 blk off d1 w1) := by rw [hd, hw]; exact S1
          rw [← hw]
          clear S1 hd hw
          have S1 := S1'
          clear S1'
          have HP1 := Lib.hid hP1
          obtain ⟨k1, k2, k3, k4, -, k6⟩ := cutMerge HO.out Hs1.out Hs2.out h_as h_sm h_me h_eb Hmid.out hrot Hlo2.out Hhi2.out
          have K1 := Lib.hid k1
          have K2 := Lib.hid k2
          have K3' := Lib.hid k3
          have K4' := Lib.hid k4
          have Hx := Lib.hid k6
          have Hme2 : Hid (mid ≤ e) := Lib.hid (by have := Hmid.out; omega)
          have hd1 : d1.size = d.size := hP1.1
          clear k1 k2 k3 k4 k6 hP1 hrot
          by_cases c1 : a < s
          · have q1 : (a : Int) < (s : Int) := by omega
            by_cases c2 : s < mid
            · have q2 : (s : Int) < (mid : Int) := by omega
              have hsym := ih a s mid d1 w1 (by rw [hd1]; exact Hs.out) S1.out c1 c2 (by rw [hd1]; have := Hmb.out; omega) (by rw [hd1]; exact hsz) K1.out K2.out (by have := Hmb.out; omega)
              rw [hd1] at hsym
              have Hsym := Lib.hid hsym
              have Hd1 := Lib.hid hd1
              clear hsym hd1
              go_wp2_with fail
              refine Calls.mono Hsym.out ?_
              rintro e' w2 ⟨rfl, d2, hP2, hS2, hW2⟩
              have S2 : Aside _ := hW2
              have hd1 := Hd1.out
              clear S1 hW2 Hsym Hd1
              have HPL : Hid (PermIn a mid d1 d2) := Lib.hid hP2
              have HSL : Hid (SortedIn (ltOf cf) a mid d2) := Lib.hid hS2
              have K3 : Hid (SortedIn (ltOf cf) mid e d2) := Lib.hid (fun i j r1 r2 r3 => by rw [hP2.2.1 i (.inr r1), hP2.2.1 j (.inr (by omega))]; exact K3'.out i j r1 r2 r3)
              have K4 : Hid (SortedIn (ltOf cf) e b d2) := Lib.hid (fun i j r1 r2 r3 => by rw [hP2.2.1 i (.inr (by have := Hme2.out; omega)), hP2.2.1 j (.inr (by have := Hme2.out; omega))]; exact K4'.out i j r1 r2 r3)
              have hd2 : d2.size = d.size := by rw [hP2.1]; exact hd1
              clear hP2 hS2 hd1
              by_cases c3 : mid < e
              · have q3 : (mid : Int) < (e : Int) := by omega
                by_cases c4 : e < b
                · have q4 : (e : Int) < (b : Int) := by omega
                  have h3 : mid < e ∧ e < b := ⟨c3, c4⟩
                  have hsym := ih mid e b d2 w2 (by rw [hd2]; exact Hs.out) S2.out c3 c4 (by rw [hd2]; exact hb) (by rw [hd2]; exact hsz) K3.out K4.out (by have := Hmb.out; omega)
                  rw [hd2] at hsym
                  have Hsym := Lib.hid hsym
                  clear hsym hd2 h3
                  go_wp2_with fail
                  refine Calls.mono Hsym.out ?_
                  rintro e' w3 ⟨rfl, d3, hP3, hS3, hW3⟩
                  have hpost : SymPost enc (ltOf cf) w0 blk off a b d (.returned (.tuple #[])) w3 := ⟨rfl, d3, by
                    have k := mergeEnd HO.out (by have := Hmb.out; omega) (by have := Hmb.out; omega) (by rw [HP1.out.1]; exact hb) Hx.out HPL.out HSL.out hP3 hS3
                    exact ⟨permIn_trans _ _ _ _ _ HP1.out k.1, k.2, hW3⟩⟩
                  clear S2 hW3
                  have Hpost := Lib.hid hpost
                  clear hpost
                  go_wp2_with fail
                  go_end0
                  exact Hpost.out
                · have q4 : ¬ (e : Int) < (b : Int) := by omega
                  have hpost : SymPost enc (ltOf cf) w0 blk off a b d (.returned (.tuple #[])) w2 := ⟨rfl, d2, by
                    have k := mergeEnd HO.out (by have := Hmb.out; omega) (by have := Hmb.out; omega) (by rw [HP1.out.1]; exact hb) Hx.out HPL.out HSL.out (permIn_refl _ _ _) (by rw [show b = e from by omega]; exact K3.out)
                    exact ⟨permIn_trans _ _ _ _ _ HP1.out k.1, k.2, S2.out⟩⟩
                  clear S2 hd2
                  have Hpost := Lib.hid hpost
                  clear hpost
                  go_wp2_with fail
                  go_end0
                  exact Hpost.out
              · have q3 : ¬ (mid : Int) < (e : Int) := by omega
                have hpost : SymPost enc (ltOf cf) w0 blk off a b d (.returned (.tuple #[])) w2 := ⟨rfl, d2, by
                  have k := mergeEnd HO.out (by have := Hmb.out; omega) (by have := Hmb.out; omega) (by rw [HP1.out.1]; exact hb) Hx.out HPL.out HSL.out (permIn_refl _ _ _) (by rw [show mid = e from by have := Hme2.out; omega]; exact K4.out)
                  exact ⟨permIn_trans _ _ _ _ _ HP1.out k.1, k.2, S2.out⟩⟩
                clear S2 hd2
                have Hpost := Lib.hid hpost
                clear hpost
                go_wp2_with fail
                go_end0
                exact Hpost.out
            · have q2 : ¬ (s : Int) < (mid : Int) := by omega
              obtain ⟨d2, hd⟩ : ∃ x, x = d1 := ⟨_, rfl⟩
              obtain ⟨w2, hw⟩ : ∃ x, x = w1 := ⟨_, rfl⟩
              have hP2 : PermIn a mid d1 d2 := by rw [hd]; exact permIn_refl _ _ _
              have hS2 : SortedIn (ltOf cf) a mid d2 := by rw [hd]; exact (by rw [show mid = s from by omega]; exact K1.out)
              have S2 : Aside (SW enc w0 blk off d2 w2) := by rw [hd, hw]; exact S1
              rw [← hw]
              clear S1 hd hw
              have HPL : Hid (PermIn a mid d1 d2) := Lib.hid hP2
              have HSL : Hid (SortedIn (ltOf cf) a mid d2) := Lib.hid hS2
              have K3 : Hid (SortedIn (ltOf cf) mid e d2) := Lib.hid (fun i j r1 r2 r3 => by rw [hP2.2.1 i (.inr r1), hP2.2.1 j (.inr (by omega))]; exact K3'.out i j r1 r2 r3)
              have K4 : Hid (SortedIn (ltOf cf) e b d2) := Lib.hid (fun i j r1 r2 r3 => by rw [hP2.2.1 i (.inr (by have := Hme2.out; omega)), hP2.2.1 j (.inr (by have := Hme2.out; omega))]; exact K4'.out i j r1 r2 r3)
              have hd2 : d2.size = d.size := by rw [hP2.1]; exact hd1
              clear hP2 hS2 hd1
              by_cases c3 : mid < e
              · have q3 : (mid : Int) < (e : Int) := by omega
                by_cases c4 : e < b
                · have q4 : (e : Int) < (b : Int) := by omega
                  have h3 : mid < e ∧ e < b := ⟨c3, c4⟩
                  have hsym := ih mid e b d2 w2 (by rw [hd2]; exact Hs.out) S2.out c3 c4 (by rw [hd2]; exact hb) (by rw [hd2]; exact hsz) K3.out K4.out (by have := Hmb.out; omega)
                  rw [hd2] at hsym
                  have Hsym := Lib.hid hsym
                  clear hsym hd2 h3
                  go_wp2_with fail
                  refine Calls.mono Hsym.out ?_
                  rintro e' w3 ⟨rfl, d3, hP3, hS3, hW3⟩
                  have hpost : SymPost enc (ltOf cf) w0 blk off a b d (.returned (.tuple #[])) w3 := ⟨rfl, d3, by
                    have k := mergeEnd HO.out (by have := Hmb.out; omega) (by have := Hmb.out; omega) (by rw [HP1.out.1]; exact hb) Hx.out HPL.out HSL.out hP3 hS3
                    exact ⟨permIn_trans _ _ _ _ _ HP1.out k.1, k.2, hW3⟩⟩
                  clear S2 hW3
                  have Hpost := Lib.hid hpost
                  clear hpost
                  go_wp2_with fail
                  go_end0
                  exact Hpost.out
                · have q4 : ¬ (e : Int) < (b : Int) := by omega
                  have hpost : SymPost enc (ltOf cf) w0 blk off a b d (.returned (.tuple #[])) w2 := ⟨rfl, d2, by
                    have k := mergeEnd HO.out (by have := Hmb.out; omega) (by have := Hmb.out; omega) (by rw [HP1.out.1]; exact hb) Hx.out HPL.out HSL.out (permIn_refl _ _ _) (by rw [show b = e from by omega]; exact K3.out)
                    exact ⟨permIn_trans _ _ _ _ _ HP1.out k.1, k.2, S2.out⟩⟩
                  clear S2 hd2
                  have Hpost := Lib.hid hpost
                  clear hpost
                  go_wp2_with fail
                  go_end0
                  exact Hpost.out
              · have q3 : ¬ (mid : Int) < (e : Int) := by omega
                have hpost : SymPost enc (ltOf cf) w0 blk off a b d (.returned (.tuple #[])) w2 := ⟨rfl, d2, by
                  have k := mergeEnd HO.out (by have := Hmb.out; omega) (by have := Hmb.out; omega) (by rw [HP1.out.1]; exact hb) Hx.out HPL.out HSL.out (permIn_refl _ _ _) (by rw [show mid = e from by have := Hme2.out; omega]; exact K4.out)
                  exact ⟨permIn_trans _ _ _ _ _ HP1.out k.1, k.2, S2.out⟩⟩
                clear S2 hd2
                have Hpost := Lib.hid hpost
                clear hpost
                go_wp2_with fail
                go_end0
                exact Hpost.out
          · have q1 : ¬ (a : Int) < (s : Int) := by omega
            obtain ⟨d2, hd⟩ : ∃ x, x = d1 := ⟨_, rfl⟩
            obtain ⟨w2, hw⟩ : ∃ x, x = w1 := ⟨_, rfl⟩
            have hP2 : PermIn a mid d1 d2 := by rw [hd]; exact permIn_refl _ _ _
            have hS2 : SortedIn (ltOf cf) a mid d2 := by rw [hd]; exact (by rw [show a = s from by omega]; exact K2.out)
            have S2 : Aside (SW enc w0 blk off d2 w2) := by rw [hd, hw]; exact S1
            rw [← hw]
            clear S1 hd hw
            have HPL : Hid (PermIn a mid d1 d2) := Lib.hid hP2
            have HSL : Hid (SortedIn (ltOf cf) a mid d2) := Lib.hid hS2
            have K3 : Hid (SortedIn (ltOf cf) mid e d2) := Lib.hid (fun i j r1 r2 r3 => by rw [hP2.2.1 i (.inr r1), hP2.2.1 j (.inr (by omega))]; exact K3'.out i j r1 r2 r3)
            have K4 : Hid (SortedIn (ltOf cf) e b d2) := Lib.hid (fun i j r1 r2 r3 => by rw [hP2.2.1 i (.inr (by have := Hme2.out; omega)), hP2.2.1 j (.inr (by have := Hme2.out; omega))]; exact K4'.out i j r1 r2 r3)
            have hd2 : d2.size = d.size := by rw [hP2.1]; exact hd1
            clear hP2 hS2 hd1
            by_cases c3 : mid < e
            · have q3 : (mid : Int) < (e : Int) := by omega
              by_cases c4 : e < b
              · have q4 : (e : Int) < (b : Int) := by omega
                have h3 : mid < e ∧ e < b := ⟨c3, c4⟩
                have hsym := ih mid e b d2 w2 (by rw [hd2]; exact Hs.out) S2.out c3 c4 (by rw [hd2]; exact hb) (by rw [hd2]; exact hsz) K3.out K4.out (by have := Hmb.out; omega)
                rw [hd2] at hsym
                have Hsym := Lib.hid hsym
                clear hsym hd2 h3
                go_wp2_with fail
                refine Calls.mono Hsym.out ?_
                rintro e' w3 ⟨rfl, d3, hP3, hS3, hW3⟩
                have hpost : SymPost enc (ltOf cf) w0 blk off a b d (.returned (.tuple #[])) w3 := ⟨rfl, d3, by
                  have k := mergeEnd HO.out (by have := Hmb.out; omega) (by have := Hmb.out; omega) (by rw [HP1.out.1]; exact hb) Hx.out HPL.out HSL.out hP3 hS3
                  exact ⟨permIn_trans _ _ _ _ _ HP1.out k.1, k.2, hW3⟩⟩
                clear S2 hW3
                have Hpost := Lib.hid hpost
                clear hpost
                go_wp2_with fail
                go_end0
                exact Hpost.out
              · have q4 : ¬ (e : Int) < (b : Int) := by omega
                have hpost : SymPost enc (ltOf cf) w0 blk off a b d (.returned (.tuple #[])) w2 := ⟨rfl, d2, by
                  have k := mergeEnd HO.out (by have := Hmb.out; omega) (by have := Hmb.out; omega) (by rw [HP1.out.1]; exact hb) Hx.out HPL.out HSL.out (permIn_refl _ _ _) (by rw [show b = e from by omega]; exact K3.out)
                  exact ⟨permIn_trans _ _ _ _ _ HP1.out k.1, k.2, S2.out⟩⟩
                clear S2 hd2
                have Hpost := Lib.hid hpost
                clear hpost
                go_wp2_with fail
                go_end0
                exact Hpost.out
            · have q3 : ¬ (mid : Int) < (e : Int) := by omega
              have hpost : SymPost enc (ltOf cf) w0 blk off a b d (.returned (.tuple #[])) w2 := ⟨rfl, d2, by
                have k := mergeEnd HO.out (by have := Hmb.out; omega) (by have := Hmb.out; omega) (by rw [HP1.out.1]; exact hb) Hx.out HPL.out HSL.out (permIn_refl _ _ _) (by rw [show mid = e from by have := Hme2.out; omega]; exact K4.out)
                exact ⟨permIn_trans _ _ _ _ _ HP1.out k.1, k.2, S2.out⟩⟩
              clear S2 hd2
              have Hpost := Lib.hid hpost
              clear hpost
              go_wp2_with fail
              go_end0
              exact Hpost.out
  · have hc := Hc2.out hm
    obtain ⟨hl0, hh0⟩ := hc
    have g2 : ¬ (mid : Int) < (m : Int) := by omega
    have Hh0 := Lib.hid hh0
    have Hl0 := Lib.hid hl0
    clear hl0 hh0
    clear hm hm1 hm2
    go_enter Tryz.func95, Tryz.ntmps95
    go_wp2_with fail
    clear e1 e2 g0 g1 e3 e4 g2
    go_loopw [20, 21] (fun t20 t21 wr => ∃ (s r : Nat), t20 = .int .i64 s ∧ t21 = .int .i64 r ∧ lo ≤ s ∧ s ≤ r ∧ r ≤ hi ∧ Hid (s = lo ∨ ltOf cf d[n - s]! d[s - 1]! = false) ∧ Hid (r = hi ∨ ltOf cf d[n - 1 - r]! d[r]! = true) ∧ Aside (SW enc w0 blk off d wr)) (fun t20 t21 _ => (intOf t21).toNat - (intOf t20).toNat)
    case atStart => exact ⟨lo, hi, by first | rfl | rw [Hl0.out], by rw [Hh0.out], Nat.le_refl _, hlh, Nat.le_refl _, Lib.hid (.inl rfl), Lib.hid (.inl rfl), S0⟩
    case round =>
      clear S0
      obtain ⟨s, r, rfl, rfl, hls, hsr, hrh, Hlo, Hhi, S1⟩ := hrel
      by_cases hlt : s < r
      · have iij : (s : Int) < (r : Int) := by omega
        have hrd : r < d.size := by omega
        obtain ⟨h, hh⟩ : ∃ q, q = (s + r) / 2 := ⟨_, rfl⟩
        have w1 : IntKind.i64.wrap ((s : Int) + (r : Int)) = (s : Int) + (r : Int) := wrapOk (by omega) (by omega)
        have w2 : IntKind.u64.wrap ((s : Int) + (r : Int)) = (s : Int) + (r : Int) := wrapU (by omega) (by omega)
        have w3 : ((s : Int) + (r : Int)) / 2 = (h : Int) := by omega
        have h1h : s ≤ h ∧ h < r := by omega
        have zzh : (0 : Int) ≤ (h : Int) := by omega
        have zlh : (h : Int) < (d.size : Int) := by omega
        obtain ⟨pc, hpc⟩ : ∃ q, q = p - h := ⟨_, rfl⟩
        have e5 : (p : Int) - (h : Int) = (pc : Int) := by have := Hp.out; have := Hn.out; omega
        have zpc : (0 : Int) ≤ (pc : Int) := by omega
        have hpcd : pc < d.size := by have := Hp.out; have := Hn.out; omega
        have zlpc : (pc : Int) < (d.size : Int) := by omega
        have r6 : IntKind.i64.wrap (pc : Int) = (pc : Int) := by rw [IntKind.wrap_i64]; omega
        have r5 : IntKind.i64.wrap ((p : Int) - (h : Int)) = (pc : Int) := by rw [e5]; exact r6
        have HpA : Hid (pc = n - (h + 1) ∧ pc = n - 1 - h) := Lib.hid (by have := Hp.out; omega)
        clear hpc
        cases hlv : ltOf cf d[pc]! d[h]! with
        | true =>
          obtain ⟨x1, hx1⟩ : ∃ x, x = d[pc]! := ⟨_, rfl⟩
          obtain ⟨y1, hy1⟩ : ∃ x, x = d[h]! := ⟨_, rfl⟩
          have l1 := S1.out.cl HR.out Hs.out.symm (pc) (by omega)
          have l2 := S1.out.cl HR.out Hs.out.symm (h) (by omega)
          rw [← hx1] at l1
          rw [← hy1] at l2
          have hc1 := S1.out.cmp HC.out Hs.out.symm x1 y1
          have hv1 : cf x1 y1 < 0 := by rw [hx1, hy1]; exact of_decide_eq_true hlv
          have hd1 : decide (cf x1 y1 < 0) = true := decide_eq_true hv1
          have Hlv := Lib.hid hlv
          clear hh
          clear hx1 hy1 hlv
          go_wp2_with fail
          go_quiet_grown (first | (go_at_fn g; refine Calls.grown_of (hc1 _ _)))
          have S2 : Aside (SW enc w0 blk off d (grow (wr.drewN nq) osq)) := S1.out.grown nq osq
          clear l1 l2 hc1 S1
          generalize grow (wr.drewN nq) osq = w2 at S2 ⊢
          clear nq osq
          go_wp2_with fail
          go_roundw
          case rel => exact ⟨s, h, rfl, rfl, hls, by omega, by omega, Hlo, Lib.hid (.inr (by rw [← HpA.out.2]; exact Hlv.out)), S2⟩
          case measure => simp [intOf]; omega
        | false =>
          obtain ⟨x1, hx1⟩ : ∃ x, x = d[pc]! := ⟨_, rfl⟩
          obtain ⟨y1, hy1⟩ : ∃ x, x = d[h]! := ⟨_, rfl⟩
          have l1 := S1.out.cl HR.out Hs.out.symm (pc) (by omega)
          have l2 := S1.out.cl HR.out Hs.out.symm (h) (by omega)
          rw [← hx1] at l1
          rw [← hy1] at l2
          have hc1 := S1.out.cmp HC.out Hs.out.symm x1 y1
          have hv1 : ¬ cf x1 y1 < 0 := by rw [hx1, hy1]; exact of_decide_eq_false hlv
          have hd1 : decide (cf x1 y1 < 0) = false := decide_eq_false hv1
          have Hlv := Lib.hid hlv
          clear hh
          clear hx1 hy1 hlv
          go_wp2_with fail
          go_quiet_grown (first | (go_at_fn g; refine Calls.grown_of (hc1 _ _)))
          have S2 : Aside (SW enc w0 blk off d (grow (wr.drewN nq) osq)) := S1.out.grown nq osq
          clear l1 l2 hc1 S1
          generalize grow (wr.drewN nq) osq = w2 at S2 ⊢
          clear nq osq
          go_wp2_with fail
          go_roundw
          case rel => exact ⟨h + 1, r, by go_num, rfl, by omega, by omega, hrh, Lib.hid (.inr (by rw [Nat.add_sub_cancel, ← HpA.out.1]; exact Hlv.out)), Hhi, S2⟩
          case measure => simp [intOf]; omega
      · obtain rfl : s = r := by omega
        have iij : ¬ (s : Int) < (s : Int) := by omega
        obtain ⟨e, he⟩ : ∃ e, e = n - s := ⟨_, rfl⟩
        have e6 : (n : Int) - (s : Int) = (e : Int) := by have := Hn.out; omega
        have hS : a ≤ s ∧ s ≤ m ∧ s ≤ mid ∧ m ≤ e ∧ e ≤ b ∧ s + (e - m) = mid := by have := Hn.out; omega
        obtain ⟨h_as, h_sm, h_smid, h_me, h_eb, h_mid⟩ := hS
        have Hmid := Lib.hid h_mid
        have Hlo2 : Hid (s = a ∨ e = b ∨ ltOf cf d[e]! d[s - 1]! = false) := Lib.hid (by
          rcases Hlo.out with h | h
          · by_cases hc : m > mid
            · have := Hc1.out hc; have := Hn.out; exact .inr (.inl (by omega))
            · have := Hc2.out hc; exact .inl (by omega)
          · exact .inr (.inr (by rw [he]; exact h)))
        have Hhi2 : Hid (m = e ∨ s = m ∨ ltOf cf d[e - 1]! d[s]! = true) := Lib.hid (by
          rcases Hhi.out with h | h
          · by_cases hc : m > mid
            · have := Hc1.out hc; have := Hn.out; exact .inl (by omega)
            · have := Hc2.out hc; exact .inr (.inl (by omega))
          · exact .inr (.inr (by rw [he, show n - s - 1 = n - 1 - s by omega]; exact h)))
        have he3 : e ≤ mid + (m - s) ∧ mid + m = e + s := by have := Hn.out; omega
        have He3 := Lib.hid he3
        clear he h_mid he3
        by_cases r1 : s < m
        · have z1 : (s : Int) < (m : Int) := by omega
          by_cases r2 : m < e
          · have z2 : (m : Int) < (e : Int) := by omega
            have hr := rotate_s enc blk off cap s m e d0 d w0 wr (.func (.func g) #[] cb) HR.out Hs.out S1.out r1 r2 (by omega) hsz
            have Hro := Lib.hid hr
            clear hr
            go_wp2_with fail
            refine Calls.mono Hro.out ?_
            rintro e' w1 ⟨rfl, d1, hP, hrot, hW⟩
            have hP1 : PermIn a b d d1 := permIn_mono _ _ _ _ _ _ h_as h_eb hb hP
            have S1' : Aside _ := hW
            clear S1 hW hP Hro
            have S1 := S1'
            clear S1'
            have HP1 := Lib.hid hP1
            obtain ⟨k1, k2, k3, k4, -, k6⟩ := cutMerge HO.out Hs1.out Hs2.out h_as h_sm h_me h_eb Hmid.out hrot Hlo2.out Hhi2.out
            have K1 := Lib.hid k1
            have K2 := Lib.hid k2
            have K3' := Lib.hid k3
            have K4' := Lib.hid k4
            have Hx := Lib.hid k6
            have Hme2 : Hid (mid ≤ e) := Lib.hid (by have := Hmid.out; omega)
            have hd1 : d1.size = d.size := hP1.1
            clear k1 k2 k3 k4 k6 hP1 hrot
            by_cases c1 : a < s
            · have q1 : (a : Int) < (s : Int) := by omega
              by_cases c2 : s < mid
              · have q2 : (s : Int) < (mid : Int) := by omega
                have hsym := ih a s mid d1 w1 (by rw [hd1]; exact Hs.out) S1.out c1 c2 (by rw [hd1]; have := Hmb.out; omega) (by rw [hd1]; exact hsz) K1.out K2.out (by have := Hmb.out; omega)
                rw [hd1] at hsym
                have Hsym := Lib.hid hsym
                have Hd1 := Lib.hid hd1
                clear hsym hd1
                go_wp2_with fail
                refine Calls.mono Hsym.out ?_
                rintro e' w2 ⟨rfl, d2, hP2, hS2, hW2⟩
                have S2 : Aside _ := hW2
                have hd1 := Hd1.out
                clear S1 hW2 Hsym Hd1
                have HPL : Hid (PermIn a mid d1 d2) := Lib.hid hP2
                have HSL : Hid (SortedIn (ltOf cf) a mid d2) := Lib.hid hS2
                have K3 : Hid (SortedIn (ltOf cf) mid e d2) := Lib.hid (fun i j r1 r2 r3 => by rw [hP2.2.1 i (.inr r1), hP2.2.1 j (.inr (by omega))]; exact K3'.out i j r1 r2 r3)
                have K4 : Hid (SortedIn (ltOf cf) e b d2) := Lib.hid (fun i j r1 r2 r3 => by rw [hP2.2.1 i (.inr (by have := Hme2.out; omega)), hP2.2.1 j (.inr (by have := Hme2.out; omega))]; exact K4'.out i j r1 r2 r3)
                have hd2 : d2.size = d.size := by rw [hP2.1]; exact hd1
                clear hP2 hS2 hd1
                by_cases c3 : mid < e
                · have q3 : (mid : Int) < (e : Int) := by omega
                  by_cases c4 : e < b
                  · have q4 : (e : Int) < (b : Int) := by omega
                    have h3 : mid < e ∧ e < b := ⟨c3, c4⟩
                    have hsym := ih mid e b d2 w2 (by rw [hd2]; exact Hs.out) S2.out c3 c4 (by rw [hd2]; exact hb) (by rw [hd2]; exact hsz) K3.out K4.out (by have := Hmb.out; omega)
                    rw [hd2] at hsym
                    have Hsym := Lib.hid hsym
                    clear hsym hd2 h3
                    go_wp2_with fail
                    refine Calls.mono Hsym.out ?_
                    rintro e' w3 ⟨rfl, d3, hP3, hS3, hW3⟩
                    have hpost : SymPost enc (ltOf cf) w0 blk off a b d (.returned (.tuple #[])) w3 := ⟨rfl, d3, by
                      have k := mergeEnd HO.out (by have := Hmb.out; omega) (by have := Hmb.out; omega) (by rw [HP1.out.1]; exact hb) Hx.out HPL.out HSL.out hP3 hS3
                      exact ⟨permIn_trans _ _ _ _ _ HP1.out k.1, k.2, hW3⟩⟩
                    clear S2 hW3
                    have Hpost := Lib.hid hpost
                    clear hpost
                    go_wp2_with fail
                    go_end0
                    exact Hpost.out
                  · have q4 : ¬ (e : Int) < (b : Int) := by omega
                    have hpost : SymPost enc (ltOf cf) w0 blk off a b d (.returned (.tuple #[])) w2 := ⟨rfl, d2, by
                      have k := mergeEnd HO.out (by have := Hmb.out; omega) (by have := Hmb.out; omega) (by rw [HP1.out.1]; exact hb) Hx.out HPL.out HSL.out (permIn_refl _ _ _) (by rw [show b = e from by omega]; exact K3.out)
                      exact ⟨permIn_trans _ _ _ _ _ HP1.out k.1, k.2, S2.out⟩⟩
                    clear S2 hd2
                    have Hpost := Lib.hid hpost
                    clear hpost
                    go_wp2_with fail
                    go_end0
                    exact Hpost.out
                · have q3 : ¬ (mid : Int) < (e : Int) := by omega
                  have hpost : SymPost enc (ltOf cf) w0 blk off a b d (.returned (.tuple #[])) w2 := ⟨rfl, d2, by
                    have k := mergeEnd HO.out (by have := Hmb.out; omega) (by have := Hmb.out; omega) (by rw [HP1.out.1]; exact hb) Hx.out HPL.out HSL.out (permIn_refl _ _ _) (by rw [show mid = e from by have := Hme2.out; omega]; exact K4.out)
                    exact ⟨permIn_trans _ _ _ _ _ HP1.out k.1, k.2, S2.out⟩⟩
                  clear S2 hd2
                  have Hpost := Lib.hid hpost
                  clear hpost
                  go_wp2_with fail
                  go_end0
                  exact Hpost.out
              · have q2 : ¬ (s : Int) < (mid : Int) := by omega
                obtain ⟨d2, hd⟩ : ∃ x, x = d1 := ⟨_, rfl⟩
                obtain ⟨w2, hw⟩ : ∃ x, x = w1 := ⟨_, rfl⟩
                have hP2 : PermIn a mid d1 d2 := by rw [hd]; exact permIn_refl _ _ _
                have hS2 : SortedIn (ltOf cf) a mid d2 := by rw [hd]; exact (by rw [show mid = s from by omega]; exact K1.out)
                have S2 : Aside (SW enc w0 blk off d2 w2) := by rw [hd, hw]; exact S1
                rw [← hw]
                clear S1 hd hw
                have HPL : Hid (PermIn a mid d1 d2) := Lib.hid hP2
                have HSL : Hid (SortedIn (ltOf cf) a mid d2) := Lib.hid hS2
                have K3 : Hid (SortedIn (ltOf cf) mid e d2) := Lib.hid (fun i j r1 r2 r3 => by rw [hP2.2.1 i (.inr r1), hP2.2.1 j (.inr (by omega))]; exact K3'.out i j r1 r2 r3)
                have K4 : Hid (SortedIn (ltOf cf) e b d2) := Lib.hid (fun i j r1 r2 r3 => by rw [hP2.2.1 i (.inr (by have := Hme2.out; omega)), hP2.2.1 j (.inr (by have := Hme2.out; omega))]; exact K4'.out i j r1 r2 r3)
                have hd2 : d2.size = d.size := by rw [hP2.1]; exact hd1
                clear hP2 hS2 hd1
                by_cases c3 : mid < e
                · have q3 : (mid : Int) < (e : Int) := by omega
                  by_cases c4 : e < b
                  · have q4 : (e : Int) < (b : Int) := by omega
                    have h3 : mid < e ∧ e < b := ⟨c3, c4⟩
                    have hsym := ih mid e b d2 w2 (by rw [hd2]; exact Hs.out) S2.out c3 c4 (by rw [hd2]; exact hb) (by rw [hd2]; exact hsz) K3.out K4.out (by have := Hmb.out; omega)
                    rw [hd2] at hsym
                    have Hsym := Lib.hid hsym
                    clear hsym hd2 h3
                    go_wp2_with fail
                    refine Calls.mono Hsym.out ?_
                    rintro e' w3 ⟨rfl, d3, hP3, hS3, hW3⟩
                    have hpost : SymPost enc (ltOf cf) w0 blk off a b d (.returned (.tuple #[])) w3 := ⟨rfl, d3, by
                      have k := mergeEnd HO.out (by have := Hmb.out; omega) (by have := Hmb.out; omega) (by rw [HP1.out.1]; exact hb) Hx.out HPL.out HSL.out hP3 hS3
                      exact ⟨permIn_trans _ _ _ _ _ HP1.out k.1, k.2, hW3⟩⟩
                    clear S2 hW3
                    have Hpost := Lib.hid hpost
                    clear hpost
                    go_wp2_with fail
                    go_end0
                    exact Hpost.out
                  · have q4 : ¬ (e : Int) < (b : Int) := by omega
                    have hpost : SymPost enc (ltOf cf) w0 blk off a b d (.returned (.tuple #[])) w2 := ⟨rfl, d2, by
                      have k := mergeEnd HO.out (by have := Hmb.out; omega) (by have := Hmb.out; omega) (by rw [HP1.out.1]; exact hb) Hx.out HPL.out HSL.out (permIn_refl _ _ _) (by rw [show b = e from by omega]; exact K3.out)
                      exact ⟨permIn_trans _ _ _ _ _ HP1.out k.1, k.2, S2.out⟩⟩
                    clear S2 hd2
                    have Hpost := Lib.hid hpost
                    clear hpost
                    go_wp2_with fail
                    go_end0
                    exact Hpost.out
                · have q3 : ¬ (mid : Int) < (e : Int) := by omega
                  have hpost : SymPost enc (ltOf cf) w0 blk off a b d (.returned (.tuple #[])) w2 := ⟨rfl, d2, by
                    have k := mergeEnd HO.out (by have := Hmb.out; omega) (by have := Hmb.out; omega) (by rw [HP1.out.1]; exact hb) Hx.out HPL.out HSL.out (permIn_refl _ _ _) (by rw [show mid = e from by have := Hme2.out; omega]; exact K4.out)
                    exact ⟨permIn_trans _ _ _ _ _ HP1.out k.1, k.2, S2.out⟩⟩
                  clear S2 hd2
                  have Hpost := Lib.hid hpost
                  clear hpost
                  go_wp2_with fail
                  go_end0
                  exact Hpost.out
            · have q1 : ¬ (a : Int) < (s : Int) := by omega
              obtain ⟨d2, hd⟩ : ∃ x, x = d1 := ⟨_, rfl⟩
              obtain ⟨w2, hw⟩ : ∃ x, x = w1 := ⟨_, rfl⟩
              have hP2 : PermIn a mid d1 d2 := by rw [hd]; exact permIn_refl _ _ _
              have hS2 : SortedIn (ltOf cf) a mid d2 := by rw [hd]; exact (by rw [show a = s from by omega]; exact K2.out)
              have S2 : Aside (SW enc w0 blk off d2 w2) := by rw [hd, hw]; exact S1
              rw [← hw]
              clear S1 hd hw
              have HPL : Hid (PermIn a mid d1 d2) := Lib.hid hP2
              have HSL : Hid (SortedIn (ltOf cf) a mid d2) := Lib.hid hS2
              have K3 : Hid (SortedIn (ltOf cf) mid e d2) := Lib.hid (fun i j r1 r2 r3 => by rw [hP2.2.1 i (.inr r1), hP2.2.1 j (.inr (by omega))]; exact K3'.out i j r1 r2 r3)
              have K4 : Hid (SortedIn (ltOf cf) e b d2) := Lib.hid (fun i j r1 r2 r3 => by rw [hP2.2.1 i (.inr (by have := Hme2.out; omega)), hP2.2.1 j (.inr (by have := Hme2.out; omega))]; exact K4'.out i j r1 r2 r3)
              have hd2 : d2.size = d.size := by rw [hP2.1]; exact hd1
              clear hP2 hS2 hd1
              by_cases c3 : mid < e
              · have q3 : (mid : Int) < (e : Int) := by omega
                by_cases c4 : e < b
                · have q4 : (e : Int) < (b : Int) := by omega
                  have h3 : mid < e ∧ e < b := ⟨c3, c4⟩
                  have hsym := ih mid e b d2 w2 (by rw [hd2]; exact Hs.out) S2.out c3 c4 (by rw [hd2]; exact hb) (by rw [hd2]; exact hsz) K3.out K4.out (by have := Hmb.out; omega)
                  rw [hd2] at hsym
                  have Hsym := Lib.hid hsym
                  clear hsym hd2 h3
                  go_wp2_with fail
                  refine Calls.mono Hsym.out ?_
                  rintro e' w3 ⟨rfl, d3, hP3, hS3, hW3⟩
                  have hpost : SymPost enc (ltOf cf) w0 blk off a b d (.returned (.tuple #[])) w3 := ⟨rfl, d3, by
                    have k := mergeEnd HO.out (by have := Hmb.out; omega) (by have := Hmb.out; omega) (by rw [HP1.out.1]; exact hb) Hx.out HPL.out HSL.out hP3 hS3
                    exact ⟨permIn_trans _ _ _ _ _ HP1.out k.1, k.2, hW3⟩⟩
                  clear S2 hW3
                  have Hpost := Lib.hid hpost
                  clear hpost
                  go_wp2_with fail
                  go_end0
                  exact Hpost.out
                · have q4 : ¬ (e : Int) < (b : Int) := by omega
                  have hpost : SymPost enc (ltOf cf) w0 blk off a b d (.returned (.tuple #[])) w2 := ⟨rfl, d2, by
                    have k := mergeEnd HO.out (by have := Hmb.out; omega) (by have := Hmb.out; omega) (by rw [HP1.out.1]; exact hb) Hx.out HPL.out HSL.out (permIn_refl _ _ _) (by rw [show b = e from by omega]; exact K3.out)
                    exact ⟨permIn_trans _ _ _ _ _ HP1.out k.1, k.2, S2.out⟩⟩
                  clear S2 hd2
                  have Hpost := Lib.hid hpost
                  clear hpost
                  go_wp2_with fail
                  go_end0
                  exact Hpost.out
              · have q3 : ¬ (mid : Int) < (e : Int) := by omega
                have hpost : SymPost enc (ltOf cf) w0 blk off a b d (.returned (.tuple #[])) w2 := ⟨rfl, d2, by
                  have k := mergeEnd HO.out (by have := Hmb.out; omega) (by have := Hmb.out; omega) (by rw [HP1.out.1]; exact hb) Hx.out HPL.out HSL.out (permIn_refl _ _ _) (by rw [show mid = e from by have := Hme2.out; omega]; exact K4.out)
                  exact ⟨permIn_trans _ _ _ _ _ HP1.out k.1, k.2, S2.out⟩⟩
                clear S2 hd2
                have Hpost := Lib.hid hpost
                clear hpost
                go_wp2_with fail
                go_end0
                exact Hpost.out
          · have z2 : ¬ (m : Int) < (e : Int) := by omega
            obtain ⟨d1, hd⟩ : ∃ x, x = d := ⟨_, rfl⟩
            obtain ⟨w1, hw⟩ : ∃ x, x = wr := ⟨_, rfl⟩
            have hP1 : PermIn a b d d1 := by rw [hd]; exact permIn_refl _ _ _
            have hrot : Rot s m e d d1 := by rw [hd]; exact (by rw [show e = m from by omega]; exact Rot.none2 d s m h_sm)
            have S1' : Aside (SW enc w0 blk off d1 w1) := by rw [hd, hw]; exact S1
            rw [← hw]
            clear S1 hd hw
            have S1 := S1'
            clear S1'
            have HP1 := Lib.hid hP1
            obtain ⟨k1, k2, k3, k4, -, k6⟩ := cutMerge HO.out Hs1.out Hs2.out h_as h_sm h_me h_eb Hmid.out hrot Hlo2.out Hhi2.out
            have K1 := Lib.hid k1
            have K2 := Lib.hid k2
            have K3' := Lib.hid k3
            have K4' := Lib.hid k4
            have Hx := Lib.hid k6
            have Hme2 : Hid (mid ≤ e) := Lib.hid (by have := Hmid.out; omega)
            have hd1 : d1.size = d.size := hP1.1
            clear k1 k2 k3 k4 k6 hP1 hrot
            by_cases c1 : a < s
            · have q1 : (a : Int) < (s : Int) := by omega
              by_cases c2 : s < mid
              · have q2 : (s : Int) < (mid : Int) := by omega
                have hsym := ih a s mid d1 w1 (by rw [hd1]; exact Hs.out) S1.out c1 c2 (by rw [hd1]; have := Hmb.out; omega) (by rw [hd1]; exact hsz) K1.out K2.out (by have := Hmb.out; omega)
                rw [hd1] at hsym
                have Hsym := Lib.hid hsym
                have Hd1 := Lib.hid hd1
                clear hsym hd1
                go_wp2_with fail
                refine Calls.mono Hsym.out ?_
                rintro e' w2 ⟨rfl, d2, hP2, hS2, hW2⟩
                have S2 : Aside _ := hW2
                have hd1 := Hd1.out
                clear S1 hW2 Hsym Hd1
                have HPL : Hid (PermIn a mid d1 d2) := Lib.hid hP2
                have HSL : Hid (SortedIn (ltOf cf) a mid d2) := Lib.hid hS2
                have K3 : Hid (SortedIn (ltOf cf) mid e d2) := Lib.hid (fun i j r1 r2 r3 => by rw [hP2.2.1 i (.inr r1), hP2.2.1 j (.inr (by omega))]; exact K3'.out i j r1 r2 r3)
                have K4 : Hid (SortedIn (ltOf cf) e b d2) := Lib.hid (fun i j r1 r2 r3 => by rw [hP2.2.1 i (.inr (by have := Hme2.out; omega)), hP2.2.1 j (.inr (by have := Hme2.out; omega))]; exact K4'.out i j r1 r2 r3)
                have hd2 : d2.size = d.size := by rw [hP2.1]; exact hd1
                clear hP2 hS2 hd1
                by_cases c3 : mid < e
                · have q3 : (mid : Int) < (e : Int) := by omega
                  by_cases c4 : e < b
                  · have q4 : (e : Int) < (b : Int) := by omega
                    have h3 : mid < e ∧ e < b := ⟨c3, c4⟩
                    have hsym := ih mid e b d2 w2 (by rw [hd2]; exact Hs.out) S2.out c3 c4 (by rw [hd2]; exact hb) (by rw [hd2]; exact hsz) K3.out K4.out (by have := Hmb.out; omega)
                    rw [hd2] at hsym
                    have Hsym := Lib.hid hsym
                    clear hsym hd2 h3
                    go_wp2_with fail
                    refine Calls.mono Hsym.out ?_
                    rintro e' w3 ⟨rfl, d3, hP3, hS3, hW3⟩
                    have hpost : SymPost enc (ltOf cf) w0 blk off a b d (.returned (.tuple #[])) w3 := ⟨rfl, d3, by
                      have k := mergeEnd HO.out (by have := Hmb.out; omega) (by have := Hmb.out; omega) (by rw [HP1.out.1]; exact hb) Hx.out HPL.out HSL.out hP3 hS3
                      exact ⟨permIn_trans _ _ _ _ _ HP1.out k.1, k.2, hW3⟩⟩
                    clear S2 hW3
                    have Hpost := Lib.hid hpost
                    clear hpost
                    go_wp2_with fail
                    go_end0
                    exact Hpost.out
                  · have q4 : ¬ (e : Int) < (b : Int) := by omega
                    have hpost : SymPost enc (ltOf cf) w0 blk off a b d (.returned (.tuple #[])) w2 := ⟨rfl, d2, by
                      have k := mergeEnd HO.out (by have := Hmb.out; omega) (by have := Hmb.out; omega) (by rw [HP1.out.1]; exact hb) Hx.out HPL.out HSL.out (permIn_refl _ _ _) (by rw [show b = e from by omega]; exact K3.out)
                      exact ⟨permIn_trans _ _ _ _ _ HP1.out k.1, k.2, S2.out⟩⟩
                    clear S2 hd2
                    have Hpost := Lib.hid hpost
                    clear hpost
                    go_wp2_with fail
                    go_end0
                    exact Hpost.out
                · have q3 : ¬ (mid : Int) < (e : Int) := by omega
                  have hpost : SymPost enc (ltOf cf) w0 blk off a b d (.returned (.tuple #[])) w2 := ⟨rfl, d2, by
                    have k := mergeEnd HO.out (by have := Hmb.out; omega) (by have := Hmb.out; omega) (by rw [HP1.out.1]; exact hb) Hx.out HPL.out HSL.out (permIn_refl _ _ _) (by rw [show mid = e from by have := Hme2.out; omega]; exact K4.out)
                    exact ⟨permIn_trans _ _ _ _ _ HP1.out k.1, k.2, S2.out⟩⟩
                  clear S2 hd2
                  have Hpost := Lib.hid hpost
                  clear hpost
                  go_wp2_with fail
                  go_end0
                  exact Hpost.out
              · have q2 : ¬ (s : Int) < (mid : Int) := by omega
                obtain ⟨d2, hd⟩ : ∃ x, x = d1 := ⟨_, rfl⟩
                obtain ⟨w2, hw⟩ : ∃ x, x = w1 := ⟨_, rfl⟩
                have hP2 : PermIn a mid d1 d2 := by rw [hd]; exact permIn_refl _ _ _
                have hS2 : SortedIn (ltOf cf) a mid d2 := by rw [hd]; exact (by rw [show mid = s from by omega]; exact K1.out)
                have S2 : Aside (SW enc w0 blk off d2 w2) := by rw [hd, hw]; exact S1
                rw [← hw]
                clear S1 hd hw
                have HPL : Hid (PermIn a mid d1 d2) := Lib.hid hP2
                have HSL : Hid (SortedIn (ltOf cf) a mid d2) := Lib.hid hS2
                have K3 : Hid (SortedIn (ltOf cf) mid e d2) := Lib.hid (fun i j r1 r2 r3 => by rw [hP2.2.1 i (.inr r1), hP2.2.1 j (.inr (by omega))]; exact K3'.out i j r1 r2 r3)
                have K4 : Hid (SortedIn (ltOf cf) e b d2) := Lib.hid (fun i j r1 r2 r3 => by rw [hP2.2.1 i (.inr (by have := Hme2.out; omega)), hP2.2.1 j (.inr (by have := Hme2.out; omega))]; exact K4'.out i j r1 r2 r3)
                have hd2 : d2.size = d.size := by rw [hP2.1]; exact hd1
                clear hP2 hS2 hd1
                by_cases c3 : mid < e
                · have q3 : (mid : Int) < (e : Int) := by omega
                  by_cases c4 : e < b
                  · have q4 : (e : Int) < (b : Int) := by omega
                    have h3 : mid < e ∧ e < b := ⟨c3, c4⟩
                    have hsym := ih mid e b d2 w2 (by rw [hd2]; exact Hs.out) S2.out c3 c4 (by rw [hd2]; exact hb) (by rw [hd2]; exact hsz) K3.out K4.out (by have := Hmb.out; omega)
                    rw [hd2] at hsym
                    have Hsym := Lib.hid hsym
                    clear hsym hd2 h3
                    go_wp2_with fail
                    refine Calls.mono Hsym.out ?_
                    rintro e' w3 ⟨rfl, d3, hP3, hS3, hW3⟩
                    have hpost : SymPost enc (ltOf cf) w0 blk off a b d (.returned (.tuple #[])) w3 := ⟨rfl, d3, by
                      have k := mergeEnd HO.out (by have := Hmb.out; omega) (by have := Hmb.out; omega) (by rw [HP1.out.1]; exact hb) Hx.out HPL.out HSL.out hP3 hS3
                      exact ⟨permIn_trans _ _ _ _ _ HP1.out k.1, k.2, hW3⟩⟩
                    clear S2 hW3
                    have Hpost := Lib.hid hpost
                    clear hpost
                    go_wp2_with fail
                    go_end0
                    exact Hpost.out
                  · have q4 : ¬ (e : Int) < (b : Int) := by omega
                    have hpost : SymPost enc (ltOf cf) w0 blk off a b d (.returned (.tuple #[])) w2 := ⟨rfl, d2, by
                      have k := mergeEnd HO.out (by have := Hmb.out; omega) (by have := Hmb.out; omega) (by rw [HP1.out.1]; exact hb) Hx.out HPL.out HSL.out (permIn_refl _ _ _) (by rw [show b = e from by omega]; exact K3.out)
                      exact ⟨permIn_trans _ _ _ _ _ HP1.out k.1, k.2, S2.out⟩⟩
                    clear S2 hd2
                    have Hpost := Lib.hid hpost
                    clear hpost
                    go_wp2_with fail
                    go_end0
                    exact Hpost.out
                · have q3 : ¬ (mid : Int) < (e : Int) := by omega
                  have hpost : SymPost enc (ltOf cf) w0 blk off a b d (.returned (.tuple #[])) w2 := ⟨rfl, d2, by
                    have k := mergeEnd HO.out (by have := Hmb.out; omega) (by have := Hmb.out; omega) (by rw [HP1.out.1]; exact hb) Hx.out HPL.out HSL.out (permIn_refl _ _ _) (by rw [show mid = e from by have := Hme2.out; omega]; exact K4.out)
                    exact ⟨permIn_trans _ _ _ _ _ HP1.out k.1, k.2, S2.out⟩⟩
                  clear S2 hd2
                  have Hpost := Lib.hid hpost
                  clear hpost
                  go_wp2_with fail
                  go_end0
                  exact Hpost.out
            · have q1 : ¬ (a : Int) < (s : Int) := by omega
              obtain ⟨d2, hd⟩ : ∃ x, x = d1 := ⟨_, rfl⟩
              obtain ⟨w2, hw⟩ : ∃ x, x = w1 := ⟨_, rfl⟩
              have hP2 : PermIn a mid d1 d2 := by rw [hd]; exact permIn_refl _ _ _
              have hS2 : SortedIn (ltOf cf) a mid d2 := by rw [hd]; exact (by rw [show a = s from by omega]; exact K2.out)
              have S2 : Aside (SW enc w0 blk off d2 w2) := by rw [hd, hw]; exact S1
              rw [← hw]
              clear S1 hd hw
              have HPL : Hid (PermIn a mid d1 d2) := Lib.hid hP2
              have HSL : Hid (SortedIn (ltOf cf) a mid d2) := Lib.hid hS2
              have K3 : Hid (SortedIn (ltOf cf) mid e d2) := Lib.hid (fun i j r1 r2 r3 => by rw [hP2.2.1 i (.inr r1), hP2.2.1 j (.inr (by omega))]; exact K3'.out i j r1 r2 r3)
              have K4 : Hid (SortedIn (ltOf cf) e b d2) := Lib.hid (fun i j r1 r2 r3 => by rw [hP2.2.1 i (.inr (by have := Hme2.out; omega)), hP2.2.1 j (.inr (by have := Hme2.out; omega))]; exact K4'.out i j r1 r2 r3)
              have hd2 : d2.size = d.size := by rw [hP2.1]; exact hd1
              clear hP2 hS2 hd1
              by_cases c3 : mid < e
              · have q3 : (mid : Int) < (e : Int) := by omega
                by_cases c4 : e < b
                · have q4 : (e : Int) < (b : Int) := by omega
                  have h3 : mid < e ∧ e < b := ⟨c3, c4⟩
                  have hsym := ih mid e b d2 w2 (by rw [hd2]; exact Hs.out) S2.out c3 c4 (by rw [hd2]; exact hb) (by rw [hd2]; exact hsz) K3.out K4.out (by have := Hmb.out; omega)
                  rw [hd2] at hsym
                  have Hsym := Lib.hid hsym
                  clear hsym hd2 h3
                  go_wp2_with fail
                  refine Calls.mono Hsym.out ?_
                  rintro e' w3 ⟨rfl, d3, hP3, hS3, hW3⟩
                  have hpost : SymPost enc (ltOf cf) w0 blk off a b d (.returned (.tuple #[])) w3 := ⟨rfl, d3, by
                    have k := mergeEnd HO.out (by have := Hmb.out; omega) (by have := Hmb.out; omega) (by rw [HP1.out.1]; exact hb) Hx.out HPL.out HSL.out hP3 hS3
                    exact ⟨permIn_trans _ _ _ _ _ HP1.out k.1, k.2, hW3⟩⟩
                  clear S2 hW3
                  have Hpost := Lib.hid hpost
                  clear hpost
                  go_wp2_with fail
                  go_end0
                  exact Hpost.out
                · have q4 : ¬ (e : Int) < (b : Int) := by omega
                  have hpost : SymPost enc (ltOf cf) w0 blk off a b d (.returned (.tuple #[])) w2 := ⟨rfl, d2, by
                    have k := mergeEnd HO.out (by have := Hmb.out; omega) (by have := Hmb.out; omega) (by rw [HP1.out.1]; exact hb) Hx.out HPL.out HSL.out (permIn_refl _ _ _) (by rw [show b = e from by omega]; exact K3.out)
                    exact ⟨permIn_trans _ _ _ _ _ HP1.out k.1, k.2, S2.out⟩⟩
                  clear S2 hd2
                  have Hpost := Lib.hid hpost
                  clear hpost
                  go_wp2_with fail
                  go_end0
                  exact Hpost.out
              · have q3 : ¬ (mid : Int) < (e : Int) := by omega
                have hpost : SymPost enc (ltOf cf) w0 blk off a b d (.returned (.tuple #[])) w2 := ⟨rfl, d2, by
                  have k := mergeEnd HO.out (by have := Hmb.out; omega) (by have := Hmb.out; omega) (by rw [HP1.out.1]; exact hb) Hx.out HPL.out HSL.out (permIn_refl _ _ _) (by rw [show mid = e from by have := Hme2.out; omega]; exact K4.out)
                  exact ⟨permIn_trans _ _ _ _ _ HP1.out k.1, k.2, S2.out⟩⟩
                clear S2 hd2
                have Hpost := Lib.hid hpost
                clear hpost
                go_wp2_with fail
                go_end0
                exact Hpost.out
        · have z1 : ¬ (s : Int) < (m : Int) := by omega
          obtain ⟨d1, hd⟩ : ∃ x, x = d := ⟨_, rfl⟩
          obtain ⟨w1, hw⟩ : ∃ x, x = wr := ⟨_, rfl⟩
          have hP1 : PermIn a b d d1 := by rw [hd]; exact permIn_refl _ _ _
          have hrot : Rot s m e d d1 := by rw [hd]; exact (by rw [show s = m from by omega]; exact Rot.none1 d m e)
          have S1' : Aside (SW enc w0 blk off d1 w1) := by rw [hd, hw]; exact S1
          rw [← hw]
          clear S1 hd hw
          have S1 := S1'
          clear S1'
          have HP1 := Lib.hid hP1
          obtain ⟨k1, k2, k3, k4, -, k6⟩ := cutMerge HO.out Hs1.out Hs2.out h_as h_sm h_me h_eb Hmid.out hrot Hlo2.out Hhi2.out
          have K1 := Lib.hid k1
          have K2 := Lib.hid k2
          have K3' := Lib.hid k3
          have K4' := Lib.hid k4
          have Hx := Lib.hid k6
          have Hme2 : Hid (mid ≤ e) := Lib.hid (by have := Hmid.out; omega)
          have hd1 : d1.size = d.size := hP1.1
          clear k1 k2 k3 k4 k6 hP1 hrot
          by_cases c1 : a < s
          · have q1 : (a : Int) < (s : Int) := by omega
            by_cases c2 : s < mid
            · have q2 : (s : Int) < (mid : Int) := by omega
              have hsym := ih a s mid d1 w1 (by rw [hd1]; exact Hs.out) S1.out c1 c2 (by rw [hd1]; have := Hmb.out; omega) (by rw [hd1]; exact hsz) K1.out K2.out (by have := Hmb.out; omega)
              rw [hd1] at hsym
              have Hsym := Lib.hid hsym
              have Hd1 := Lib.hid hd1
              clear hsym hd1
              go_wp2_with fail
              refine Calls.mono Hsym.out ?_
              rintro e' w2 ⟨rfl, d2, hP2, hS2, hW2⟩
              have S2 : Aside _ := hW2
              have hd1 := Hd1.out
              clear S1 hW2 Hsym Hd1
              have HPL : Hid (PermIn a mid d1 d2) := Lib.hid hP2
              have HSL : Hid (SortedIn (ltOf cf) a mid d2) := Lib.hid hS2
              have K3 : Hid (SortedIn (ltOf cf) mid e d2) := Lib.hid (fun i j r1 r2 r3 => by rw [hP2.2.1 i (.inr r1), hP2.2.1 j (.inr (by omega))]; exact K3'.out i j r1 r2 r3)
              have K4 : Hid (SortedIn (ltOf cf) e b d2) := Lib.hid (fun i j r1 r2 r3 => by rw [hP2.2.1 i (.inr (by have := Hme2.out; omega)), hP2.2.1 j (.inr (by have := Hme2.out; omega))]; exact K4'.out i j r1 r2 r3)
              have hd2 : d2.size = d.size := by rw [hP2.1]; exact hd1
              clear hP2 hS2 hd1
              by_cases c3 : mid < e
              · have q3 : (mid : Int) < (e : Int) := by omega
                by_cases c4 : e < b
                · have q4 : (e : Int) < (b : Int) := by omega
                  have h3 : mid < e ∧ e < b := ⟨c3, c4⟩
                  have hsym := ih mid e b d2 w2 (by rw [hd2]; exact Hs.out) S2.out c3 c4 (by rw [hd2]; exact hb) (by rw [hd2]; exact hsz) K3.out K4.out (by have := Hmb.out; omega)
                  rw [hd2] at hsym
                  have Hsym := Lib.hid hsym
                  clear hsym hd2 h3
                  go_wp2_with fail
                  refine Calls.mono Hsym.out ?_
                  rintro e' w3 ⟨rfl, d3, hP3, hS3, hW3⟩
                  have hpost : SymPost enc (ltOf cf) w0 blk off a b d (.returned (.tuple #[])) w3 := ⟨rfl, d3, by
                    have k := mergeEnd HO.out (by have := Hmb.out; omega) (by have := Hmb.out; omega) (by rw [HP1.out.1]; exact hb) Hx.out HPL.out HSL.out hP3 hS3
                    exact ⟨permIn_trans _ _ _ _ _ HP1.out k.1, k.2, hW3⟩⟩
                  clear S2 hW3
                  have Hpost := Lib.hid hpost
                  clear hpost
                  go_wp2_with fail
                  go_end0
                  exact Hpost.out
                · have q4 : ¬ (e : Int) < (b : Int) := by omega
                  have hpost : SymPost enc (ltOf cf) w0 blk off a b d (.returned (.tuple #[])) w2 := ⟨rfl, d2, by
                    have k := mergeEnd HO.out (by have := Hmb.out; omega) (by have := Hmb.out; omega) (by rw [HP1.out.1]; exact hb) Hx.out HPL.out HSL.out (permIn_refl _ _ _) (by rw [show b = e from by omega]; exact K3.out)
                    exact ⟨permIn_trans _ _ _ _ _ HP1.out k.1, k.2, S2.out⟩⟩
                  clear S2 hd2
                  have Hpost := Lib.hid hpost
                  clear hpost
                  go_wp2_with fail
                  go_end0
                  exact Hpost.out
              · have q3 : ¬ (mid : Int) < (e : Int) := by omega
                have hpost : SymPost enc (ltOf cf) w0 blk off a b d (.returned (.tuple #[])) w2 := ⟨rfl, d2, by
                  have k := mergeEnd HO.out (by have := Hmb.out; omega) (by have := Hmb.out; omega) (by rw [HP1.out.1]; exact hb) Hx.out HPL.out HSL.out (permIn_refl _ _ _) (by rw [show mid = e from by have := Hme2.out; omega]; exact K4.out)
                  exact ⟨permIn_trans _ _ _ _ _ HP1.out k.1, k.2, S2.out⟩⟩
                clear S2 hd2
                have Hpost := Lib.hid hpost
                clear hpost
                go_wp2_with fail
                go_end0
                exact Hpost.out
            · have q2 : ¬ (s : Int) < (mid : Int) := by omega
              obtain ⟨d2, hd⟩ : ∃ x, x = d1 := ⟨_, rfl⟩
              obtain ⟨w2, hw⟩ : ∃ x, x = w1 := ⟨_, rfl⟩
              have hP2 : PermIn a mid d1 d2 := by rw [hd]; exact permIn_refl _ _ _
              have hS2 : SortedIn (ltOf cf) a mid d2 := by rw [hd]; exact (by rw [show mid = s from by omega]; exact K1.out)
              have S2 : Aside (SW enc w0 blk off d2 w2) := by rw [hd, hw]; exact S1
              rw [← hw]
              clear S1 hd hw
              have HPL : Hid (PermIn a mid d1 d2) := Lib.hid hP2
              have HSL : Hid (SortedIn (ltOf cf) a mid d2) := Lib.hid hS2
              have K3 : Hid (SortedIn (ltOf cf) mid e d2) := Lib.hid (fun i j r1 r2 r3 => by rw [hP2.2.1 i (.inr r1), hP2.2.1 j (.inr (by omega))]; exact K3'.out i j r1 r2 r3)
              have K4 : Hid (SortedIn (ltOf cf) e b d2) := Lib.hid (fun i j r1 r2 r3 => by rw [hP2.2.1 i (.inr (by have := Hme2.out; omega)), hP2.2.1 j (.inr (by have := Hme2.out; omega))]; exact K4'.out i j r1 r2 r3)
              have hd2 : d2.size = d.size := by rw [hP2.1]; exact hd1
              clear hP2 hS2 hd1
              by_cases c3 : mid < e
              · have q3 : (mid : Int) < (e : Int) := by omega
                by_cases c4 : e < b
                · have q4 : (e : Int) < (b : Int) := by omega
                  have h3 : mid < e ∧ e < b := ⟨c3, c4⟩
                  have hsym := ih mid e b d2 w2 (by rw [hd2]; exact Hs.out) S2.out c3 c4 (by rw [hd2]; exact hb) (by rw [hd2]; exact hsz) K3.out K4.out (by have := Hmb.out; omega)
                  rw [hd2] at hsym
                  have Hsym := Lib.hid hsym
                  clear hsym hd2 h3
                  go_wp2_with fail
                  refine Calls.mono Hsym.out ?_
                  rintro e' w3 ⟨rfl, d3, hP3, hS3, hW3⟩
                  have hpost : SymPost enc (ltOf cf) w0 blk off a b d (.returned (.tuple #[])) w3 := ⟨rfl, d3, by
                    have k := mergeEnd HO.out (by have := Hmb.out; omega) (by have := Hmb.out; omega) (by rw [HP1.out.1]; exact hb) Hx.out HPL.out HSL.out hP3 hS3
                    exact ⟨permIn_trans _ _ _ _ _ HP1.out k.1, k.2, hW3⟩⟩
                  clear S2 hW3
                  have Hpost := Lib.hid hpost
                  clear hpost
                  go_wp2_with fail
                  go_end0
                  exact Hpost.out
                · have q4 : ¬ (e : Int) < (b : Int) := by omega
                  have hpost : SymPost enc (ltOf cf) w0 blk off a b d (.returned (.tuple #[])) w2 := ⟨rfl, d2, by
                    have k := mergeEnd HO.out (by have := Hmb.out; omega) (by have := Hmb.out; omega) (by rw [HP1.out.1]; exact hb) Hx.out HPL.out HSL.out (permIn_refl _ _ _) (by rw [show b = e from by omega]; exact K3.out)
                    exact ⟨permIn_trans _ _ _ _ _ HP1.out k.1, k.2, S2.out⟩⟩
                  clear S2 hd2
                  have Hpost := Lib.hid hpost
                  clear hpost
                  go_wp2_with fail
                  go_end0
                  exact Hpost.out
              · have q3 : ¬ (mid : Int) < (e : Int) := by omega
                have hpost : SymPost enc (ltOf cf) w0 blk off a b d (.returned (.tuple #[])) w2 := ⟨rfl, d2, by
                  have k := mergeEnd HO.out (by have := Hmb.out; omega) (by have := Hmb.out; omega) (by rw [HP1.out.1]; exact hb) Hx.out HPL.out HSL.out (permIn_refl _ _ _) (by rw [show mid = e from by have := Hme2.out; omega]; exact K4.out)
                  exact ⟨permIn_trans _ _ _ _ _ HP1.out k.1, k.2, S2.out⟩⟩
                clear S2 hd2
                have Hpost := Lib.hid hpost
                clear hpost
                go_wp2_with fail
                go_end0
                exact Hpost.out
          · have q1 : ¬ (a : Int) < (s : Int) := by omega
            obtain ⟨d2, hd⟩ : ∃ x, x = d1 := ⟨_, rfl⟩
            obtain ⟨w2, hw⟩ : ∃ x, x = w1 := ⟨_, rfl⟩
            have hP2 : PermIn a mid d1 d2 := by rw [hd]; exact permIn_refl _ _ _
            have hS2 : SortedIn (ltOf cf) a mid d2 := by rw [hd]; exact (by rw [show a = s from by omega]; exact K2.out)
            have S2 : Aside (SW enc w0 blk off d2 w2) := by rw [hd, hw]; exact S1
            rw [← hw]
            clear S1 hd hw
            have HPL : Hid (PermIn a mid d1 d2) := Lib.hid hP2
            have HSL : Hid (SortedIn (ltOf cf) a mid d2) := Lib.hid hS2
            have K3 : Hid (SortedIn (ltOf cf) mid e d2) := Lib.hid (fun i j r1 r2 r3 => by rw [hP2.2.1 i (.inr r1), hP2.2.1 j (.inr (by omega))]; exact K3'.out i j r1 r2 r3)
            have K4 : Hid (SortedIn (ltOf cf) e b d2) := Lib.hid (fun i j r1 r2 r3 => by rw [hP2.2.1 i (.inr (by have := Hme2.out; omega)), hP2.2.1 j (.inr (by have := Hme2.out; omega))]; exact K4'.out i j r1 r2 r3)
            have hd2 : d2.size = d.size := by rw [hP2.1]; exact hd1
            clear hP2 hS2 hd1
            by_cases c3 : mid < e
            · have q3 : (mid : Int) < (e : Int) := by omega
              by_cases c4 : e < b
              · have q4 : (e : Int) < (b : Int) := by omega
                have h3 : mid < e ∧ e < b := ⟨c3, c4⟩
                have hsym := ih mid e b d2 w2 (by rw [hd2]; exact Hs.out) S2.out c3 c4 (by rw [hd2]; exact hb) (by rw [hd2]; exact hsz) K3.out K4.out (by have := Hmb.out; omega)
                rw [hd2] at hsym
                have Hsym := Lib.hid hsym
                clear hsym hd2 h3
                go_wp2_with fail
                refine Calls.mono Hsym.out ?_
                rintro e' w3 ⟨rfl, d3, hP3, hS3, hW3⟩
                have hpost : SymPost enc (ltOf cf) w0 blk off a b d (.returned (.tuple #[])) w3 := ⟨rfl, d3, by
                  have k := mergeEnd HO.out (by have := Hmb.out; omega) (by have := Hmb.out; omega) (by rw [HP1.out.1]; exact hb) Hx.out HPL.out HSL.out hP3 hS3
                  exact ⟨permIn_trans _ _ _ _ _ HP1.out k.1, k.2, hW3⟩⟩
                clear S2 hW3
                have Hpost := Lib.hid hpost
                clear hpost
                go_wp2_with fail
                go_end0
                exact Hpost.out
              · have q4 : ¬ (e : Int) < (b : Int) := by omega
                have hpost : SymPost enc (ltOf cf) w0 blk off a b d (.returned (.tuple #[])) w2 := ⟨rfl, d2, by
                  have k := mergeEnd HO.out (by have := Hmb.out; omega) (by have := Hmb.out; omega) (by rw [HP1.out.1]; exact hb) Hx.out HPL.out HSL.out (permIn_refl _ _ _) (by rw [show b = e from by omega]; exact K3.out)
                  exact ⟨permIn_trans _ _ _ _ _ HP1.out k.1, k.2, S2.out⟩⟩
                clear S2 hd2
                have Hpost := Lib.hid hpost
                clear hpost
                go_wp2_with fail
                go_end0
                exact Hpost.out
            · have q3 : ¬ (mid : Int) < (e : Int) := by omega
              have hpost : SymPost enc (ltOf cf) w0 blk off a b d (.returned (.tuple #[])) w2 := ⟨rfl, d2, by
                have k := mergeEnd HO.out (by have := Hmb.out; omega) (by have := Hmb.out; omega) (by rw [HP1.out.1]; exact hb) Hx.out HPL.out HSL.out (permIn_refl _ _ _) (by rw [show mid = e from by have := Hme2.out; omega]; exact K4.out)
                exact ⟨permIn_trans _ _ _ _ _ HP1.out k.1, k.2, S2.out⟩⟩
              clear S2 hd2
              have Hpost := Lib.hid hpost
              clear hpost
              go_wp2_with fail
              go_end0
              exact Hpost.out
end Go.Proofs.YtmconajkgjfplaaGreat
end

/- The library's stable sort, at rows' headers: a permutation that is sorted. (Printed by std.py.) -/
section
set_option linter.unusedVariables false
set_option linter.unusedSimpArgs false
namespace Go.Proofs.YtmconajkgjfplaaGreat
open Go.RowKit Go.Sort Go.Shelf
set_option linter.unusedVariables false
set_option linter.unusedSimpArgs false
variable {α : Type} [Inhabited α]

theorem symMerge_s (enc : α → Value) (cf : α → α → Int) (hO : SWO (ltOf cf)) (g : Nat) (cb : Array Value) (blk off cap : Nat) (d0 : Array α) (w0 : World) (eg : ∀ args w, (callFunc g args).run Tryz.prog w = .ok (.enter g args) w) (hcmp : CmpLays1 Tryz.prog g cb enc cf blk off d0.size w0) (R : Go.Proofs.Row1 enc w0 blk off d0) :
    ∀ (N a m b : Nat) (d : Array α) (w : World) (hs : d0.size = d.size) (S : SW enc w0 blk off d w) (ham : a < m) (hmb : m < b) (hb : b ≤ d.size) (hsz : d.size < 4611686018427387904) (hs1 : SortedIn (ltOf cf) a m d) (hs2 : SortedIn (ltOf cf) m b d), b - a < N → Calls Tryz.prog 95 #[.slice (some ⟨blk, off, none⟩) d.size cap, .int .i64 a, .int .i64 m, .int .i64 b, .func (.func g) #[] cb] w (SymPost enc (ltOf cf) w0 blk off a b d) := by
  intro N
  induction N with
  | zero => intro a m b d w _ _ _ _ _ _ _ _ h; omega
  | succ N ih =>
    intro a m b d w hs S ham hmb hb hsz hs1 hs2 hN
    by_cases hm : m = a + 1
    · exact symMerge1_s enc cf hO g cb blk off cap a m b d0 d w0 w eg hcmp R hs S ham hmb hb hsz hs1 hs2 hm
    · by_cases hbm : b = m + 1
      · exact symMerge2_s enc cf hO g cb blk off cap a m b d0 d w0 w eg hcmp R hs S ham hmb hb hsz hs1 hs2 hm hbm
      · exact symMergeG_s enc cf hO N g cb blk off cap a m b d0 d w0 w eg hcmp R hs S ham hmb hb hsz hs1 hs2 hm hbm ih (by omega)

/-! ### chunks -/
/-- From lo on, chunks of s places each, the last one shorter; each is sorted. -/
inductive Chunks (lt : α → α → Bool) (s : Nat) (d : Array α) : Nat → Nat → Prop
  | last {lo hi : Nat} : hi ≤ lo + s → SortedIn lt lo hi d → Chunks lt s d lo hi
  | step {lo hi : Nat} : SortedIn lt lo (lo + s) d → lo + s ≤ hi → Chunks lt s d (lo + s) hi → Chunks lt s d lo hi
/-- Whole chunks, up to a place. -/
inductive Full (lt : α → α → Bool) (s : Nat) (d : Array α) : Nat → Prop
  | nil : Full lt s d 0
  | snoc {a : Nat} : Full lt s d a → SortedIn lt a (a + s) d → Full lt s d (a + s)
section
variable {lt : α → α → Bool} {s : Nat} {d d' : Array α}
theorem SortedIn.same {lo hi : Nat} (h : SortedIn lt lo hi d) (he : ∀ i, lo ≤ i → i < hi → d'[i]! = d[i]!) : SortedIn lt lo hi d' := fun i j h1 h2 h3 => by
  rw [he i h1 (by omega), he j (by omega) h3]; exact h i j h1 h2 h3
theorem Full.same {a : Nat} (h : Full lt s d a) (he : ∀ i, i < a → d'[i]! = d[i]!) : Full lt s d' a := by
  induction h with
  | nil => exact .nil
  | snoc h1 h2 ih => exact .snoc (ih (fun i hi => he i (by omega))) (SortedIn.same h2 (fun i q1 q2 => he i (by omega)))
theorem Chunks.same {lo hi : Nat} (h : Chunks lt s d lo hi) (he : ∀ i, lo ≤ i → i < hi → d'[i]! = d[i]!) : Chunks lt s d' lo hi := by
  induction h with
  | last h1 h2 => exact .last h1 (SortedIn.same h2 he)
  | step h1 h2 h3 ih => exact .step (SortedIn.same h1 (fun i q1 q2 => he i q1 (by omega))) h2 (ih (fun i q1 q2 => he i (by omega) q2))
theorem Full.chunks {a hi : Nat} (h : Full lt s d a) : Chunks lt s d a hi → a ≤ hi → Chunks lt s d 0 hi := by
  induction h with
  | nil => exact fun h _ => h
  | snoc h1 h2 ih => exact fun h3 h4 => ih (.step h2 h4 h3) (by omega)
theorem Chunks.two {lo hi : Nat} (hs : 0 < s) (h : Chunks lt s d lo hi) (h2 : lo + 2 * s ≤ hi) : SortedIn lt lo (lo + s) d ∧ SortedIn lt (lo + s) (lo + 2 * s) d ∧ Chunks lt s d (lo + 2 * s) hi := by
  cases h with
  | last h3 h4 => omega
  | step h3 h4 h5 =>
    cases h5 with
    | last h6 h7 =>
      have e : hi = lo + 2 * s := by omega
      subst e
      exact ⟨h3, h7, .last (by omega) (fun i j q1 q2 q3 => by omega)⟩
    | step h6 h7 h8 =>
      rw [show lo + s + s = lo + 2 * s by omega] at h6 h8
      exact ⟨h3, h6, h8⟩
theorem Chunks.pair {lo hi : Nat} (h : Chunks lt s d lo hi) (h1 : lo + s < hi) (h2 : hi < lo + 2 * s) : SortedIn lt lo (lo + s) d ∧ SortedIn lt (lo + s) hi d := by
  cases h with
  | last h3 h4 => omega
  | step h3 h4 h5 =>
    cases h5 with
    | last h6 h7 => exact ⟨h3, h7⟩
    | step h6 h7 h8 => omega
theorem Chunks.one {lo hi : Nat} (h : Chunks lt s d lo hi) (h1 : hi ≤ lo + s) : SortedIn lt lo hi d := by
  cases h with
  | last h3 h4 => exact h4
  | step h3 h4 h5 => exact fun i j q1 q2 q3 => h3 i j q1 q2 (by omega)
end
set_option maxHeartbeats 16000000 in
set_option maxRecDepth 1000000 in
theorem stable_s (enc : α → Value) (cf : α → α → Int) (hO : SWO (ltOf cf)) (g : Nat) (cb : Array Value) (blk off cap : Nat) (d0 : Array α) (w0 : World)
    (eg : ∀ args w, (callFunc g args).run Tryz.prog w = .ok (.enter g args) w) (hcmp : CmpLays1 Tryz.prog g cb enc cf blk off d0.size w0) (R : Go.Proofs.Row1 enc w0 blk off d0) (hsz : d0.size < 1000000000000) :
    Calls Tryz.prog 81 #[.slice (some ⟨blk, off, none⟩) d0.size cap, .int .i64 d0.size, .func (.func g) #[] cb] w0 (SymPost enc (ltOf cf) w0 blk off 0 d0.size d0) := by
  have HC : Aside _ := hcmp
  have HR := Lib.hid R
  have HO := Lib.hid hO
  have S0 : Aside (SW enc w0 blk off d0 w0) := SW.start R.hH
  obtain ⟨n, hn⟩ : ∃ n, n = d0.size := ⟨_, rfl⟩
  have Hn := Lib.hid hn
  have hszI : n < 1000000000000 := by omega
  have hset : ∀ P : Nat → Prop, P d0.size → P n := fun P h => by rw [hn]; exact h
  clear R hcmp hO hsz hset
  rw [← hn]
  clear hn
  go_enter Tryz.func81, Tryz.ntmps81
  go_wp2_with fail
  go_loopw [7, 8] (fun t7 t8 wr => ∃ (x y : Nat) (dk : Array α), t7 = .int .i64 x ∧ t8 = .int .i64 y ∧ Hid (y = x + 20) ∧ x ≤ n ∧ Hid (dk.size = n) ∧ Hid (Full (ltOf cf) 20 dk x) ∧ Hid (PermIn 0 n d0 dk) ∧ Aside (SW enc w0 blk off dk wr)) (fun _ t8 _ => n + 1 - (intOf t8).toNat)
  case atStart => exact ⟨0, 20, d0, rfl, rfl, Lib.hid rfl, Nat.zero_le _, Lib.hid Hn.out.symm, Lib.hid .nil, Lib.hid (permIn_refl _ _ _), S0⟩
  case round =>
    clear S0
    obtain ⟨x, y, dk, rfl, rfl, Hy, hxn, Hdk, HF, HP, S1⟩ := hrel
    by_cases hlt : y ≤ n
    · have iij : (y : Int) ≤ (n : Int) := by omega
      have hi := Any.insertionSortCmpFunc_s (P := Tryz.prog) (ρ := sortRows_ren) { sortRows with } enc cf g cb blk off cap x y d0 dk w0 wr eg HC.out HR.out (by rw [Hdk.out, Hn.out]) S1.out (by have := Hy.out; omega) (by rw [Hdk.out]; exact hlt) (by rw [Hdk.out]; omega)
      rw [Hdk.out] at hi
      have Hi := Lib.hid hi
      have hih := insertionSort_holds (lt := ltOf cf) HO.out dk x y (by have := Hy.out; omega) (by rw [Hdk.out]; exact hlt)
      have Hih := Lib.hid hih
      clear hi hih
      go_wp2_with fail
      refine Calls.mono Hi.out ?_
      rintro e w2 ⟨rfl, hW⟩
      have S2 : Aside _ := hW
      clear hW Hi S1
      have e20 : IntKind.i64.wrap ((y : Int) + 20) = (y : Int) + 20 := wrapOk (by omega) (by omega)
      go_wp2_with fail
      go_roundw
      case rel => exact ⟨y, y + 20, insertionSort (ltOf cf) dk x y, rfl, by first | rfl | go_num | (congr 1), Lib.hid rfl, hlt, Lib.hid (by rw [Hih.out.1.1]; exact Hdk.out), Lib.hid (by
        have k := Full.snoc (HF.out.same (d' := insertionSort (ltOf cf) dk x y) (fun i hi => Hih.out.1.2.1 i (.inl hi))) (by rw [← Hy.out]; exact Hih.out.2)
        rw [← Hy.out] at k
        exact k), Lib.hid (permIn_trans _ _ _ _ _ HP.out (permIn_mono _ _ _ _ _ _ (Nat.zero_le _) hlt (by rw [Hdk.out]; omega) Hih.out.1)), S2⟩
      case measure => have := Hy.out; simp [intOf]; omega
    · have iij : ¬ (y : Int) ≤ (n : Int) := by omega
      have hi := Any.insertionSortCmpFunc_s (P := Tryz.prog) (ρ := sortRows_ren) { sortRows with } enc cf g cb blk off cap x n d0 dk w0 wr eg HC.out HR.out (by rw [Hdk.out, Hn.out]) S1.out hxn (by rw [Hdk.out]; exact Nat.le_refl _) (by rw [Hdk.out]; omega)
      rw [Hdk.out] at hi
      have Hi := Lib.hid hi
      have hih := insertionSort_holds (lt := ltOf cf) HO.out dk x n hxn (by rw [Hdk.out]; exact Nat.le_refl _)
      have Hih := Lib.hid hih
      clear hi hih
      go_wp2_with fail
      refine Calls.mono Hi.out ?_
      rintro e w2 ⟨rfl, hW⟩
      obtain ⟨d2, hd2⟩ : ∃ q, q = insertionSort (ltOf cf) dk x n := ⟨_, rfl⟩
      rw [← hd2] at hW Hih
      have S2 : Aside (SW enc w0 blk off d2 w2) := hW
      have HCh : Hid (Chunks (ltOf cf) 20 d2 0 n) := Lib.hid ((HF.out.same (fun i hi => Hih.out.1.2.1 i (.inl hi))).chunks (.last (by have := Hy.out; omega) Hih.out.2) hxn)
      have HP2 : Hid (PermIn 0 n d0 d2) := Lib.hid (permIn_trans _ _ _ _ _ HP.out (permIn_mono _ _ _ _ _ _ (Nat.zero_le _) (Nat.le_refl _) (by rw [Hdk.out]; omega) Hih.out.1))
      have Hd2 : Hid (d2.size = n) := Lib.hid (by rw [Hih.out.1.1]; exact Hdk.out)
      clear hW Hi S1 hd2 Hih HP HF Hdk Hy iij hlt hxn
      go_wp2_with fail
      go_loopw [6] (fun t6 wr => ∃ (bs : Nat) (dk : Array α), t6 = .int .i64 bs ∧ 20 ≤ bs ∧ bs ≤ 2 * n + 20 ∧ Hid (dk.size = n) ∧ Hid (Chunks (ltOf cf) bs dk 0 n) ∧ Hid (PermIn 0 n d0 dk) ∧ Aside (SW enc w0 blk off dk wr)) (fun t6 _ => n - (intOf t6).toNat)
      case atStart => exact ⟨20, d2, rfl, Nat.le_refl _, by omega, Hd2, HCh, HP2, S2⟩
      case round =>
        clear S2 Hd2 HCh HP2
        obtain ⟨bs, dk, rfl, hbs, hbn, Hdk, HCh, HP, S1⟩ := hrel
        by_cases hlt : bs < n
        · have iij : (bs : Int) < (n : Int) := by omega
          obtain ⟨B, hB⟩ : ∃ B, B = 2 * bs := ⟨_, rfl⟩
          have eB : (2 : Int) * (bs : Int) = (B : Int) := by omega
          have eB2 : (bs : Int) * 2 = (B : Int) := by omega
          have wB : IntKind.i64.wrap (B : Int) = (B : Int) := wrapOk (by omega) (by omega)
          have hBn : B ≤ 2 * n + 40 := by omega
          have HB := Lib.hid hB
          clear hB
          go_wp2_with fail
          go_loopw [7, 8] (fun t7 t8 wr => ∃ (x y : Nat) (dk : Array α), t7 = .int .i64 x ∧ t8 = .int .i64 y ∧ Hid (y = x + 2 * bs) ∧ x ≤ n ∧ Hid (dk.size = n) ∧ Hid (Full (ltOf cf) (2 * bs) dk x) ∧ Hid (Chunks (ltOf cf) bs dk x n) ∧ Hid (PermIn 0 n d0 dk) ∧ Aside (SW enc w0 blk off dk wr)) (fun _ t8 _ => n + 1 - (intOf t8).toNat)
          case atStart => exact ⟨0, B, dk, rfl, rfl, Lib.hid (by rw [HB.out]; omega), Nat.zero_le _, Hdk, Lib.hid .nil, HCh, HP, S1⟩
          case round =>
            clear S1 Hdk HCh HP dk
            obtain ⟨x, y, dk, rfl, rfl, Hy, hxn, Hdk, HF, HCh, HP, S1⟩ := hrel
            obtain ⟨mm, hmm⟩ : ∃ q, q = x + bs := ⟨_, rfl⟩
            have em : (x : Int) + (bs : Int) = (mm : Int) := by omega
            have Hmm := Lib.hid hmm
            clear hmm
            by_cases hlt2 : y ≤ n
            · have iij2 : (y : Int) ≤ (n : Int) := by omega
              have htwo := HCh.out.two (by omega) (by rw [← Hy.out]; exact hlt2)
              have hsy := symMerge_s enc cf HO.out g cb blk off cap d0 w0 eg HC.out HR.out (y - x + 1) x mm y dk wr (by rw [Hdk.out, Hn.out]) S1.out (by have := Hmm.out; omega) (by have := Hmm.out; have := Hy.out; omega) (by rw [Hdk.out]; exact hlt2) (by rw [Hdk.out]; omega) (by rw [Hmm.out]; exact htwo.1) (by rw [Hmm.out, Hy.out]; exact htwo.2.1) (by omega)
              rw [Hdk.out] at hsy
              have Hsy := Lib.hid hsy
              have Htwo := Lib.hid htwo
              clear hsy htwo
              go_wp2_with fail
              refine Calls.mono Hsy.out ?_
              rintro e w2 ⟨rfl, d2, hP2, hS2, hW⟩
              have S2 : Aside _ := hW
              have HP2 := Lib.hid hP2
              have HS2 := Lib.hid hS2
              clear hW hP2 hS2 Hsy S1
              obtain ⟨y2, hy2⟩ : ∃ q, q = y + B := ⟨_, rfl⟩
              have ey : (y : Int) + (B : Int) = (y2 : Int) := by omega
              have Hy2 := Lib.hid hy2
              clear hy2
              go_wp2_with fail
              go_roundw
              case rel => exact ⟨y, y2, d2, rfl, rfl, Lib.hid (by rw [Hy2.out, HB.out]), hlt2, Lib.hid (by rw [HP2.out.1]; exact Hdk.out), Lib.hid (by
                have k := Full.snoc (HF.out.same (d' := d2) (fun i hi => HP2.out.2.1 i (.inl hi))) (by rw [← Hy.out]; exact HS2.out)
                rw [← Hy.out] at k
                exact k), Lib.hid (by
                have k := Htwo.out.2.2.same (d' := d2) (fun i q1 q2 => HP2.out.2.1 i (.inr (by rw [Hy.out]; exact q1)))
                rw [← Hy.out] at k
                exact k), Lib.hid (permIn_trans _ _ _ _ _ HP.out (permIn_mono _ _ _ _ _ _ (Nat.zero_le _) hlt2 (by rw [Hdk.out]; omega) HP2.out)), S2⟩
              case measure => have := Hy2.out; have := HB.out; simp [intOf]; omega
            · have iij2 : ¬ (y : Int) ≤ (n : Int) := by omega
              by_cases hmn : mm < n
              · have imn : (mm : Int) < (n : Int) := by omega
                have hpair := HCh.out.pair (by rw [← Hmm.out]; exact hmn) (by have := Hy.out; omega)
                have hsy := symMerge_s enc cf HO.out g cb blk off cap d0 w0 eg HC.out HR.out (n - x + 1) x mm n dk wr (by rw [Hdk.out, Hn.out]) S1.out (by have := Hmm.out; omega) hmn (by rw [Hdk.out]; exact Nat.le_refl _) (by rw [Hdk.out]; omega) (by rw [Hmm.out]; exact hpair.1) (by rw [Hmm.out]; exact hpair.2) (by omega)
                rw [Hdk.out] at hsy
                have Hsy := Lib.hid hsy
                clear hsy hpair
                go_wp2_with fail
                refine Calls.mono Hsy.out ?_
                rintro e w2 ⟨rfl, d2, hP2, hS2, hW⟩
                have S2 : Aside _ := hW
                have HP2 := Lib.hid hP2
                have HS2 := Lib.hid hS2
                clear hW hP2 hS2 Hsy S1
                go_wp2_with fail
                go_roundw
                case rel => exact ⟨B, d2, rfl, by have := HB.out; omega, by have := HB.out; omega, Lib.hid (by rw [HP2.out.1]; exact Hdk.out), Lib.hid (by
                  have k := (HF.out.same (d' := d2) (fun i hi => HP2.out.2.1 i (.inl hi))).chunks (.last (by have := Hy.out; omega) HS2.out) hxn
                  rw [← HB.out] at k
                  exact k), Lib.hid (permIn_trans _ _ _ _ _ HP.out (permIn_mono _ _ _ _ _ _ (Nat.zero_le _) (Nat.le_refl _) (by rw [Hdk.out]; omega) HP2.out)), S2⟩
                case measure => have := HB.out; simp [intOf]; omega
              · have imn : ¬ (mm : Int) < (n : Int) := by omega
                go_wp2_with fail
                go_roundw
                case rel => exact ⟨B, dk, rfl, by have := HB.out; omega, by have := HB.out; omega, Hdk, Lib.hid (by
                  have k := HF.out.chunks (.last (by have := Hy.out; omega) (HCh.out.one (by have := Hmm.out; omega))) hxn
                  rw [← HB.out] at k
                  exact k), HP, S1⟩
                case measure => have := HB.out; simp [intOf]; omega
        · have iij : ¬ (bs : Int) < (n : Int) := by omega
          have hpost : SymPost enc (ltOf cf) w0 blk off 0 n d0 (.returned (.tuple #[])) wr := ⟨rfl, dk, HP.out, HCh.out.one (by omega), S1.out⟩
          clear S1
          have Hpost := Lib.hid hpost
          clear hpost
          go_wp2_with fail
          go_end0
          exact Hpost.out
end Go.Proofs.YtmconajkgjfplaaGreat
end

/- A row's key; how two rows' keys stand, as the stable sort asks it. -/
section
set_option linter.unusedVariables false
set_option linter.unusedSimpArgs false
namespace Go.Proofs.YtmconajkgjfplaaGreat
open Go.RowKit Go.Sort Go.Shelf
set_option linter.unusedVariables false
set_option linter.unusedSimpArgs false
attribute [local go_sem ↓] Go.wp_at_zero Go.wp_at_succ

/-- append never takes a draw back. -/
theorem run_app_drawn {P : Program} {w : World} (base : Nat) (t tx ty e : TypeId) (i : TypeInfo) (z : Value) (size bytes : Nat) (ht : P.underlying t = some (.slice e)) (hi : P.info? e = some i) (hz : i.zero = some z)
    (hsize : i.size = size) (hby : i.bytes = bytes) (hzs : z.cells.size = size) (v : Value) (n : Nat) (xs : List Value) (hown : w.ownsRow base e size v n xs)
    (x : Value) (m : Nat) (news : List Value) (hs : Src P size tx x m news w) (h63 : n + m ≤ maxLen) (hbytes : (n + m) * bytes ≤ 140737488355328) {v' : Value} {w' : World} (hrun : (Builtin.append_ #[t, tx] ty #[v, x]).run P w = .ok v' w') : w.drawn ≤ w'.drawn := by
  subst hsize
  subst hby
  have hsmall : n + m ≤ 9223372036854775807 := by simp only [maxLen] at h63; omega
  rcases hown.2 with ⟨rfl, rfl⟩ | ⟨g, cap, cur, rfl, hbg, hg, hnc, hcm, hcs, htake⟩
  · by_cases hm : m = 0
    · subst hm
      have hr : (Builtin.append_ #[t, tx] ty #[.slice none 0 0, x]).run P w = .ok (.slice none 0 0) w := by
        rcases hs.kind with ⟨e', hk⟩ | hk <;> simp [Builtin.append_, run_underlying ht, run_underlying hk, sizeOf, typeInfo, hi, hs.len, hs.cells]
      rw [hr] at hrun
      injection hrun with _ h
      subst h
      exact Nat.le_refl _
    · have hr := run_append_grow_src (P := P) w t tx ty e i z ht hi hz none 0 0 [] (run_firstCells_none w.drew i.size 0 0 0) x m news hs (by omega) (by omega)
        (growslice_fits (by omega) hbytes)
      rw [hr] at hrun
      injection hrun with _ h
      subst h
      exact Nat.le_succ _
  · by_cases hroom : n + m ≤ cap
    · have hfit : n * i.size + news.length ≤ cur.size := by rw [hs.newsLen, hcs, ← Nat.add_mul]; exact Nat.mul_le_mul_right _ hroom
      have hst := run_storeCells_at P g (n * i.size) e news 0 cur w hg (by simpa using hfit) hs.one
      simp only [Nat.add_zero] at hst
      have hr : (Builtin.append_ #[t, tx] ty #[.slice (some ⟨g, 0, none⟩) n cap, x]).run P w =
          .ok (.slice (some ⟨g, 0, none⟩) (n + m) cap) (w.setRow g (cur.toList.take (n * i.size) ++ news ++ cur.toList.drop (n * i.size + news.length)).toArray) := by
        rcases hs.kind with ⟨e', hk⟩ | hk <;> simp [Builtin.append_, run_underlying ht, run_underlying hk, sizeOf, typeInfo, hi, hs.len, hroom, hs.cells, Addr.add_lit, hst]
      rw [hr] at hrun
      injection hrun with _ h
      subst h
      exact Nat.le_refl _
    · have holds : ∀ j u, xs[j]? = some u → w.cell? ((⟨g, 0, none⟩ : Addr).add j) = some u := hown.cells (g := g) rfl
      have hr := run_append_grow_src (P := P) w t tx ty e i z ht hi hz (some ⟨g, 0, none⟩) n cap xs (run_firstCells_some w.drew i.size n ⟨g, 0, none⟩ n cap xs hown.1 (by simpa using holds)) x m news hs (by omega) (by omega)
        (growslice_fits (by omega) hbytes)
      rw [hr] at hrun
      injection hrun with _ h
      subst h
      exact Nat.le_succ _
theorem appV1_drawn {w : World} {lo : Nat} {v : Value} {xs : List V} (h : OwnV lo w v xs) (x : V) {n : Nat} (hn : n = w.heap.size) (hb : xs.length ≤ 4000000000000) (hlo : lo ≤ w.heap.size) {v' : Value} {w' : World}
    (hr : (Builtin.append_ #[36, 36] 36 #[v, .slice (some ⟨n, 0, none⟩) 1 1]).run Tryz.prog (w.alloc (.cells #[.int .i64 x.kind, .int .i64 x.n, .string ⟨x.s.toArray⟩] 44)) = .ok v' w') : w.drawn ≤ w'.drawn := by
  subst hn
  have hB : Below w.heap.size w (w.alloc (.cells (V.enc x).toArray 44)) := (Below.refl _ _).alloc (Nat.le_refl _) _
  obtain ⟨i0, hi, hz0, hz1, hz2⟩ := info_parts infoV
  have hc := CellsAt.newAt w (V.enc x) 44 rfl
  have hs : Src Tryz.prog 3 36 (.slice (some ⟨w.heap.size, 0, none⟩) 1 1) [x].length ([x].flatMap V.enc) (w.alloc (.cells (V.enc x).toArray 44)) :=
    Src.ofSlice _ Tryz.underlying36 _ _ _ _ (by simp [V.enc]) (fun j u hu => by rw [Addr.add_lit]; exact hc j u (by simpa using hu)) (fun u hu => by
      rw [List.flatMap_cons, List.flatMap_nil, List.append_nil] at hu
      exact one3 x u hu)
  exact run_app_drawn (w := w.alloc (.cells (V.enc x).toArray 44)) lo _ _ _ _ i0 _ 3 32 Tryz.underlying36 hi hz0 hz1 hz2 rfl v xs.length _ (Own.kept h hB) _ _ _ hs (by simp only [List.length_cons, List.length_nil, maxLen]; omega) (by simp only [List.length_cons, List.length_nil]; omega) hr
/-- What leaves all old blocks alone, and takes no draw back. -/
theorem Gw.of {w w' : World} (hB : Below w.heap.size w w') (hd : w.drawn ≤ w'.drawn) : Gw w w' := by
  refine ⟨w'.drawn - w.drawn, w'.heap.extract w.heap.size w'.heap.size, ?_⟩
  obtain ⟨h1, h2, h3, h4, h5⟩ := hB
  have hh : w'.heap = w.heap ++ w'.heap.extract w.heap.size w'.heap.size := by
    apply Array.ext_getElem?
    intro k
    by_cases hk : k < w.heap.size
    · rw [Array.getElem?_append_left hk]; exact h5 k hk
    · rw [Array.getElem?_append_right (by omega)]
      by_cases hk2 : k < w'.heap.size
      · simp [hk2, show k - w.heap.size < w'.heap.size - w.heap.size by omega, show w.heap.size + (k - w.heap.size) = k by omega]
      · rw [Array.getElem?_eq_none (by omega), Array.getElem?_eq_none (by simp; omega)]
  cases w with
  | mk heap tape drawn os output =>
    cases w' with
    | mk heap' tape' drawn' os' output' =>
      simp only at *
      subst h1 h2 h3
      simp only [grow, World.drewN]
      rw [← hh]
      congr 1
      omega
theorem Gw.drawn {w w' : World} (h : Gw w w') : w.drawn ≤ w'.drawn := by
  obtain ⟨q, os, rfl⟩ := h
  exact Nat.le_add_right _ _
set_option maxRecDepth 100000 in
set_option maxHeartbeats 2000000 in
theorem key_any (lo hi lo2 hi2 : Nat) (x : List V) (at' : List Int) (vx va : Value) (w : World) (hx : Row1 lo hi w vx x) (hhi : hi ≤ w.heap.size) (ha : Ints lo2 hi2 w va at') (hhi2 : hi2 ≤ w.heap.size) (hok : AtOk x.length at') (hlen : at'.length ≤ 1000000000000) (R : Ending → World → Prop)
    (hR : ∀ w' v', Gw w w' → OwnV w.heap.size w' v' (pickL x at') → R (.returned v') w') : Calls Tryz.prog 54 #[vx, va] w R := by
  have HR := Lib.hid hR
  have Hx := Lib.hid hx
  have Ha := Lib.hid ha
  have Hok := Lib.hid hok
  obtain ⟨ax, cx, rfl, -, -, -, -⟩ := hx.form
  obtain ⟨aa, ca, rfl, -, -, -, -⟩ := ha.form
  have hxl := hx.len
  clear hR hx ha hok
  go_enter Tryz.func54, Tryz.ntmps54
  go_wp2_with fail
  go_loopw [5, 10] (fun t5 t10 wr => ∃ (k : Nat), k ≤ at'.length ∧ t10 = .int .i64 k ∧ OwnV w.heap.size wr t5 (pickL x (at'.take k)) ∧ Below w.heap.size w wr ∧ Hid (w.drawn ≤ wr.drawn)) (fun _ t10 _ => at'.length - (intOf t10).toNat)
  case atStart => exact ⟨0, Nat.zero_le _, rfl, Own.nil _ _ _ _ _, Below.refl _ _, Lib.hid (Nat.le_refl _)⟩
  case round =>
    obtain ⟨k, hk, rfl, hown, hB, HD⟩ := hrel
    obtain ⟨wo, ewo⟩ : ∃ x, x = wr := ⟨_, rfl⟩
    subst ewo
    have Hown := Lib.hid hown
    have HB := Lib.hid hB
    have hz := hB.size
    have kk0 : (0 : Int) ≤ (k : Int) := by omega
    obtain ⟨po, cap, hpo⟩ := Own.slice hown
    clear hown hB
    have Hkl : Hid ((pickL x (at'.take k)).length = k) := Lib.hid <| by unfold pickL; rw [List.length_map, List.length_take]; omega
    by_cases hlt : k < at'.length
    · have kkl : (k : Int) < (at'.length : Int) := by omega
      obtain ⟨b, o, rfl, hb, hat⟩ := Ints.at (Sl.below Ha.out Ints.loc HB.out hhi2) (by omega) (by omega)
      have g0 := hat k hlt wo (Below.refl _ _)
      obtain ⟨q, hq⟩ : ∃ q : Nat, at'[k] = q := ⟨at'[k].toNat, by have := Hok.out _ (List.getElem_mem hlt); omega⟩
      have hqx : q < x.length := by have := (Hok.out _ (List.getElem_mem hlt)).2; omega
      have Hst : Hid (pickL x (at'.take (k + 1)) = pickL x (at'.take k) ++ [x[q]]) := Lib.hid (by
        unfold pickL
        rw [List.take_succ_eq_append_getElem hlt, List.map_append, List.map_cons, List.map_nil, hq, Int.toNat_natCast]
        congr 2
        exact getDS x _ q hqx)
      obtain ⟨b2, o2, rfl, hb2, hat2⟩ := Row1.at (Sl.below Hx.out Row1.loc HB.out hhi) (by omega) (by omega)
      obtain ⟨z0, z1, z2⟩ := (hat2 q hqx wo (Below.refl _ _)).c3
      have qq0 : (0 : Int) ≤ (q : Int) := by omega
      have qql : (q : Int) < (x.length : Int) := by omega
      rw [hq] at g0
      clear hq hat hat2
      generalize x[q] = y at *
      obtain ⟨v3, w3, hr3, ho3, ha3⟩ := appV1 Hown.out y rfl (by rw [Hkl.out]; omega) (by omega)
      have HD3 := Lib.hid (Nat.le_trans HD.out (appV1_drawn Hown.out y rfl (by rw [Hkl.out]; omega) (by omega) hr3))
      have HO3 := Lib.hid ho3
      have HB3 := Lib.hid (HB.out.trans (ha3.below (B := w.heap.size) (by omega) (fun q e => (Own.lt Hown.out q e).1)))
      clear ho3 ha3
      subst hpo
      go_wp2_with (at_builtin; refine AtApp.of ?_)
      refine AtApp.go hr3 rfl rfl rfl rfl ?_
      go_wp2_with fail
      go_roundw
      case rel => exact ⟨k + 1, by omega, by go_num, by rw [Hst.out]; exact HO3.out, HB3.out, HD3⟩
      case measure => simp [intOf]; omega
    · obtain rfl : k = at'.length := by omega
      have hO := Hown.out
      rw [List.take_length] at hO
      have hr := HR.out wo _ (Gw.of HB.out HD.out) hO
      clear hO
      subst hpo
      go_wp2_with fail
      first | exact hr | exact fin hr rfl
end Go.Proofs.YtmconajkgjfplaaGreat
end

/- value.Sorted, and the least and the greatest of values. (Printed by fldv.py.) -/
section
set_option linter.unusedVariables false
set_option linter.unusedSimpArgs false
namespace Go.Proofs.YtmconajkgjfplaaGreat
open Go.RowKit
set_option linter.unusedVariables false
set_option linter.unusedSimpArgs false
/-- Values behind a row's own. -/
theorem appWL {w : World} {lo lo2 hi2 : Nat} {v x : Value} {xs ys : List V} (h : OwnV lo w v xs) (hx : Row1 lo2 hi2 w x ys) (hb : xs.length + ys.length ≤ 4000000000000) (hlo : lo ≤ w.heap.size) :
    ∃ v' w', (Builtin.append_ #[35, 35] 35 #[v, x]).run Tryz.prog w = .ok v' w' ∧ OwnV lo w' v' (xs ++ ys) ∧ Appended w v w' v' := by
  obtain ⟨i0, hi, hz0, hz1, hz2⟩ := info_parts infoV
  exact Own.app h _ _ _ i0 _ 32 Tryz.underlying35 hi hz0 hz1 hz2 rfl (Src.ofSl hx (fun _ => rfl) one3 Tryz.underlying35) (by omega) (by omega) hlo
/-- One value behind a row's own. -/
theorem appW1 {w : World} {lo : Nat} {v : Value} {xs : List V} (h : OwnV lo w v xs) (x : V) {n : Nat} (hn : n = w.heap.size) (hb : xs.length ≤ 4000000000000) (hlo : lo ≤ w.heap.size) :
    ∃ v' w', (Builtin.append_ #[35, 35] 35 #[v, .slice (some ⟨n, 0, none⟩) 1 1]).run Tryz.prog (w.alloc (.cells #[.int .i64 x.kind, .int .i64 x.n, .string ⟨x.s.toArray⟩] 44)) = .ok v' w' ∧ OwnV lo w' v' (xs ++ [x]) ∧ Appended w v w' v' := by
  subst hn
  have hB : Below w.heap.size w (w.alloc (.cells (V.enc x).toArray 44)) := (Below.refl _ _).alloc (Nat.le_refl _) _
  obtain ⟨i0, hi, hz0, hz1, hz2⟩ := info_parts infoV
  have hc := CellsAt.newAt w (V.enc x) 44 rfl
  have hs : Src Tryz.prog 3 35 (.slice (some ⟨w.heap.size, 0, none⟩) 1 1) [x].length ([x].flatMap V.enc) (w.alloc (.cells (V.enc x).toArray 44)) :=
    Src.ofSlice _ Tryz.underlying35 _ _ _ _ (by simp [V.enc]) (fun j u hu => by rw [Addr.add_lit]; exact hc j u (by simpa using hu)) (fun u hu => by
      rw [List.flatMap_cons, List.flatMap_nil, List.append_nil] at hu
      exact one3 x u hu)
  obtain ⟨v', w', hr, ho, ha⟩ := (Own.kept h hB).app _ _ _ i0 _ 32 Tryz.underlying35 hi hz0 hz1 hz2 rfl hs (by simp only [List.length_cons, List.length_nil]; omega) (by omega) (Nat.le_trans hlo hB.size)
  exact ⟨v', w', hr, ho, (Appended.step v hB).trans ha⟩
set_option maxRecDepth 100000 in
set_option maxHeartbeats 2000000 in
theorem CloneVals_any (klo khi : Nat) (l : List V) (v : Value) (w : World) (hk : Row1 klo khi w v l) (hkhi : khi ≤ w.heap.size) (hlen : l.length ≤ 4000000000000)
    (R : Ending → World → Prop) (hR : ∀ w' v', Below w.heap.size w w' → OwnV w.heap.size w' v' l → R (.returned v') w') : Calls Tryz.prog 85 #[v] w R := by
  rcases hk.cases with ⟨rfl, ao, cap, rfl, -, hn⟩ | ⟨hp, b, off, cap, rfl, hle, hle2, hb1, hb2, hc⟩
  · cases ao with
    | none =>
      cases hn rfl
      have hq := fun w => Lib.run_eql_slice_nil (P := Tryz.prog) w 35 44 none 0 0 0 0 Tryz.underlying35
      go_enter Tryz.func85, Tryz.ntmps85
      go_wp2_with (at_builtin; refine AtApp.of ?_)
      first | exact hR _ _ (Below.refl _ _) (Own.nil _ _ _ _ _) | exact fin (hR _ _ (Below.refl _ _) (Own.nil _ _ _ _ _)) rfl
    | some a =>
      have hq := fun w => Lib.run_eql_slice_nil (P := Tryz.prog) w 35 44 (some a) 0 cap 0 0 Tryz.underlying35
      have Hk := Lib.hid hk
      clear hk
      go_enter Tryz.func85, Tryz.ntmps85
      go_wp2_with (at_builtin; refine AtApp.of ?_)
      have hB1 : Below w.heap.size w (w.alloc (.cells #[] 44)) := (Below.refl _ _).alloc (Nat.le_refl _) _
      obtain ⟨v2, w2, hr, ho2, ha2⟩ := appWL (lo := w.heap.size) (ys := []) (Own.made V.enc 44 3 w.heap.size w rfl (Nat.le_refl _)) (Hk.out.below (flat_loc _) hB1 hkhi) (by simp) (by simp)
      refine AtApp.go hr rfl rfl rfl rfl ?_
      have hB2 : Below w.heap.size w w2 := hB1.trans (ha2.below hB1.size (fun k e => by simp [Value.ownBlock] at e; omega))
      clear hr ha2
      go_wp2
      exact fin (hR _ _ hB2 ho2) rfl
  · have Hk := Lib.hid hk
    clear hk hc
    have hq := fun w => Lib.run_eql_slice_nil (P := Tryz.prog) w 35 44 (some ⟨b, off, none⟩) l.length cap 0 0 Tryz.underlying35
    go_enter Tryz.func85, Tryz.ntmps85
    go_wp2_with (at_builtin; refine AtApp.of ?_)
    have hB1 : Below w.heap.size w (w.alloc (.cells #[] 44)) := (Below.refl _ _).alloc (Nat.le_refl _) _
    obtain ⟨v2, w2, hr, ho2, ha2⟩ := appWL (lo := w.heap.size) (ys := l) (Own.made V.enc 44 3 w.heap.size w rfl (Nat.le_refl _)) (Hk.out.below (flat_loc _) hB1 hkhi) (by simp; omega) (by simp)
    refine AtApp.go hr rfl rfl rfl rfl ?_
    have hB2 : Below w.heap.size w w2 := hB1.trans (ha2.below hB1.size (fun k e => by simp [Value.ownBlock] at e; omega))
    clear hr ha2
    go_wp2
    exact fin (hR _ _ hB2 ho2) rfl
/-- Values in order, each once. -/
abbrev sortV (l : List V) : List V := canonL cmpV l
def leastV (l : List V) : V := (sortV l).headD default
def greatV (l : List V) : V := (sortV l).getLastD default
theorem sortV_ne {l : List V} (h : 0 < l.length) : 0 < (sortV l).length := by
  cases l with
  | nil => cases h
  | cons x r =>
    have : x ∈ sortV (x :: r) := (canon_mem cmpV_cmp _ _).2 (by simp)
    exact List.length_pos_of_mem this
theorem leastV_eq {l : List V} {m : V} (hm : m ∈ l) (hall : ∀ y ∈ l, ¬ cmpV y m < 0) : leastV l = m := by
  have hs := (canon_mem cmpV_cmp l m).2 hm
  have hu := canon_up cmpV_cmp l
  unfold leastV sortV
  cases h : canonL cmpV l with
  | nil => rw [h] at hs; cases hs
  | cons a r =>
    rw [h] at hs hu
    show a = m
    rcases List.mem_cons.1 hs with e | e
    · exact e.symm
    · have h1 : cmpV a m < 0 := (List.pairwise_cons.1 hu).1 m e
      exact absurd h1 (hall a ((canon_mem cmpV_cmp l a).1 (by rw [h]; simp)))
theorem greatV_eq {l : List V} {m : V} (hm : m ∈ l) (hall : ∀ y ∈ l, ¬ 0 < cmpV y m) : greatV l = m := by
  have hs := (canon_mem cmpV_cmp l m).2 hm
  have hu := canon_up cmpV_cmp l
  unfold greatV sortV
  rcases List.eq_nil_or_concat (canonL cmpV l) with h | ⟨r, a, h⟩
  · rw [h] at hs; cases hs
  · rw [List.concat_eq_append] at h
    rw [h] at hs hu ⊢
    have hgl : (r ++ [a]).getLastD default = a := by simp
    rw [hgl]
    rcases List.mem_append.1 hs with e | e
    · have h1 : cmpV m a < 0 := (List.pairwise_append.1 hu).2.2 m e a (by simp)
      have h2 := cmpV_cmp.anti m a
      exact absurd (show 0 < cmpV a m by omega) (hall a ((canon_mem cmpV_cmp l a).1 (by rw [h]; simp)))
    · exact (List.mem_singleton.1 e).symm
set_option maxRecDepth 100000 in
set_option maxHeartbeats 4000000 in
theorem Sorted_any (klo khi : Nat) (l : List V) (v : Value) (w : World) (hk : Row1 klo khi w v l) (hkhi : khi ≤ w.heap.size) (hlen : l.length ≤ 1000000000000) (R : Ending → World → Prop)
    (hR : ∀ w' v', Below w.heap.size w w' → OwnV w.heap.size w' v' (sortV l) → R (.returned v') w') : Calls Tryz.prog 65 #[v] w R := by
  have HR := Lib.hid hR
  have Hk := Lib.hid hk
  obtain ⟨av, cv, rfl, -, -, -, -⟩ := hk.form
  clear hR hk
  go_enter Tryz.func65, Tryz.ntmps65
  go_wp2_with fail
  refine CloneVals_any klo khi l _ w Hk.out hkhi (by omega) _ (fun w1 v1 hB1 ho1 => ?_)
  have HB1 := Lib.hid hB1
  have Ho1 := Lib.hid ho1
  have hz1 := hB1.size
  obtain ⟨p1, c1, rfl⟩ := Own.slice ho1
  clear hB1 ho1
  go_wp2_with fail
  refine sortVals_any w.heap.size _ l w1 Ho1.out hlen _ (fun w2 xs hO2 ho2 hp2 hs2 => ?_)
  have hl2 : xs.length = l.length := hp2.length_eq
  have HO2 := Lib.hid hO2
  have Ho2 := Lib.hid ho2
  have Hc2 : Hid (compactL cmpV xs = sortV l) := Lib.hid (compact_canon cmpV_cmp hs2 (fun x => hp2.mem_iff))
  clear hO2 ho2 hp2 hs2
  go_wp2_with fail
  refine compactV_any w.heap.size _ xs w2 Ho2.out (by omega) _ (fun w3 v3 hO3 ho3 => ?_)
  rw [Hc2.out] at ho3
  have hge : ∀ z, (Value.slice p1 l.length c1).ownBlock = some z → w.heap.size ≤ z := fun z e => (Own.lt Ho1.out z e).1
  have hr := HR.out w3 v3 (HB1.out.trans ((HO2.out.trans hO3).below hz1 hge)) ho3
  clear hO3 ho3 hge
  go_wp2_with fail
  first | exact hr | exact fin hr rfl
set_option maxRecDepth 100000 in
set_option maxHeartbeats 4000000 in
theorem MinFunc_any (lo hi : Nat) (l : List V) (v : Value) (w : World) (hv : Row1 lo hi w v l) (hhi : hi ≤ w.heap.size) (hne : 0 < l.length) (R : Ending → World → Prop)
    (hR : ∀ w', Below w.heap.size w w' → R (.returned (leastV l).agg) w') : Calls Tryz.prog 67 #[v, .func (.func 14) #[] #[]] w R := by
  have HR := Lib.hid hR
  have Hv := Lib.hid hv
  obtain ⟨av, c, rfl, -, hcm, -, hc⟩ := hv.form
  have hnl := hv.len
  obtain ⟨bx, ox, rfl, hbx1, hbx2, hcc⟩ := hc 0 hne
  have Hcc := Lib.hid hcc
  clear hR hv hc hcc
  obtain ⟨n, hn⟩ : ∃ n, n = l.length := ⟨_, rfl⟩
  rw [← hn] at hne hnl ⊢
  have Hn := Lib.hid hn
  have c1 : ¬ (n : Int) < 1 := by omega
  have hl0 : 0 < l.length := by rw [← hn]; exact hne
  clear hn
  obtain ⟨x0, hx0⟩ : ∃ x0, x0 = l[0] := ⟨_, rfl⟩
  have Hx0 := Lib.hid hx0
  obtain ⟨cs, -, hcs, ecs⟩ := Hcc.out 0 hl0
  obtain rfl : cs = V.enc x0 := by rw [hx0]; exact ecs
  clear hx0
  obtain ⟨g0, g1, g2⟩ := hcs.c3
  simp only [Nat.zero_mul, Nat.add_zero] at g0 g1 g2
  have Hcs0 := Lib.hid hcs
  clear hcs
  go_enter Tryz.func67, Tryz.ntmps67
  go_upto_region 3 with fail
  have hBa := alloc_below w (.cells #[.int .i64 0, .int .i64 0, .string ⟨#[]⟩] 44)
  have hba := Blk.new w [.int .i64 0, .int .i64 0, .string ⟨#[]⟩] 44 rfl
  have hsa : (w.alloc (.cells #[.int .i64 0, .int .i64 0, .string ⟨#[]⟩] 44)).heap.size = w.heap.size + 1 := by simp
  have ga := (Hcs0.out.agree (.below hBa hhi) (Nat.zero_le _) hbx2)
  generalize w.alloc (.cells #[.int .i64 0, .int .i64 0, .string ⟨#[]⟩] 44) = wa at *
  clear g0 g1 g2
  obtain ⟨g0, g1, g2⟩ := ga.c3
  simp only [Nat.zero_mul, Nat.add_zero] at g0 g1 g2
  have Hba := Lib.hid hba
  have HBa := Lib.hid hBa
  have Hsa := Lib.hid hsa
  clear ga hba hBa hsa
  go_upto_region 4 with fail
  rw [Hsa.out]
  have hBb := alloc_below wa (.cells #[.int .i64 x0.kind, .int .i64 x0.n, .string ⟨x0.s.toArray⟩] 44)
  have hbb : Blk _ (w.heap.size + 1) [.int .i64 x0.kind, .int .i64 x0.n, .string ⟨x0.s.toArray⟩] 44 := Blk.new wa [.int .i64 x0.kind, .int .i64 x0.n, .string ⟨x0.s.toArray⟩] 44 Hsa.out.symm
  generalize wa.alloc (.cells #[.int .i64 x0.kind, .int .i64 x0.n, .string ⟨x0.s.toArray⟩] 44) = w2 at *
  have hsa := Hsa.out
  have HB2 := Lib.hid (HBa.out.trans (hBb.mono (by omega)))
  have H4 := Lib.hid (Hba.out.below hBb (by omega))
  have H5 := Lib.hid hbb
  have hz2 : w.heap.size + 1 < w2.heap.size := hbb.lt
  clear hBb hbb hsa g0 g1 g2 Hba HBa
  go_wp2_with fail
  go_loopw [6] (fun t6 wr => ∃ (k : Nat) (m : V), 1 ≤ k ∧ k ≤ n ∧ t6 = .int .i64 k ∧ Below w.heap.size w wr ∧ w2.heap.size ≤ wr.heap.size ∧ Blk wr w.heap.size [.int .i64 0, .int .i64 0, .string ⟨#[]⟩] 44 ∧ Blk wr (w.heap.size + 1) [.int .i64 m.kind, .int .i64 m.n, .string ⟨m.s.toArray⟩] 44 ∧ m ∈ l.take k ∧ ∀ y ∈ l.take k, ¬ cmpV y m < 0) (fun t6 _ => n - (intOf t6).toNat)
  case atStart => exact ⟨1, x0, Nat.le_refl _, by omega, rfl, HB2.out, Nat.le_refl _, H4.out, H5.out, by
    rw [Hx0.out, List.take_succ_eq_append_getElem (show 0 < l.length by have := Hn.out; omega)]; simp, by
    rw [List.take_succ_eq_append_getElem (show 0 < l.length by have := Hn.out; omega)]
    intro y hy
    simp at hy
    rw [hy, ← Hx0.out, cmpV_cmp.self]
    omega⟩
  case round =>
    obtain ⟨k, m, hk1, hkn, rfl, hB, hzr, h4, h5, hm, hall⟩ := hrel
    obtain ⟨wo, ewo⟩ : ∃ x, x = wr := ⟨_, rfl⟩
    subst ewo
    have HB := Lib.hid hB
    have Hb4 := Lib.hid h4
    have Hb5 := Lib.hid h5
    have Hm := Lib.hid hm
    have Hall := Lib.hid hall
    have hz := hB.size
    have hb5l := h5.lt
    have hb4l := h4.lt
    have kk0 : (0 : Int) ≤ (k : Int) := by omega
    clear hB h4 h5 hm hall
    by_cases hlt : k < n
    · have hkl : k < l.length := by rw [← Hn.out]; exact hlt
      obtain ⟨x, hx⟩ : ∃ x, x = l[k] := ⟨_, rfl⟩
      have Hst := Lib.hid (List.take_succ_eq_append_getElem hkl)
      rw [← hx] at Hst
      obtain ⟨cs, -, hcs, ecs⟩ := Hcc.out k hkl
      obtain rfl : cs = V.enc x := by rw [hx]; exact ecs
      have Hgx := Lib.hid (hcs.agree (.below HB.out hhi) (Nat.zero_le _) hbx2)
      have hbxw : bx < wo.heap.size := by omega
      have kn : (k : Int) < (n : Int) := by omega
      clear hcs hx
      go_upto_region 7 with fail
      have hS0 : Below wo.heap.size wo wo.drew := (Below.refl _ _).drew
      refine wp_region_held_drew (S := fun w' => Below wo.heap.size wo w') (by kernel_rfl) hS0 (fun hHeld => ?_)
      refine wpAnyH_take (i := 0) (v := .func (.func 14) #[] #[]) rfl (by kernel_rfl) (by kernel_rfl) (by kernel_rfl) (fun _ _ _ h => h) (Or.inl ⟨by rfl, ?_⟩) hHeld ?_
      · intro w' hSw; go_simp
      try simp only [Act.put, List.getElem_toArray, List.getElem_cons_succ, List.getElem_cons_zero, List.setIfInBounds_toArray, List.set_cons_zero, List.set_cons_succ]
      refine wpAnyH_take (i := 1) (v := .slice (some ⟨bx, ox, none⟩) n c) rfl (by kernel_rfl) (by kernel_rfl) (by kernel_rfl) (fun _ _ _ h => h) (Or.inl ⟨by rfl, ?_⟩) hHeld ?_
      · intro w' hSw; go_simp
      try simp only [Act.put, List.getElem_toArray, List.getElem_cons_succ, List.getElem_cons_zero, List.setIfInBounds_toArray, List.set_cons_zero, List.set_cons_succ]
      refine wpAnyH_take (i := 2) (v := .int .i64 ((k : Int))) rfl (by kernel_rfl) (by kernel_rfl) (by kernel_rfl) (fun _ _ _ h => h) (Or.inl ⟨by rfl, ?_⟩) hHeld ?_
      · intro w' hSw; go_simp
      try simp only [Act.put, List.getElem_toArray, List.getElem_cons_succ, List.getElem_cons_zero, List.setIfInBounds_toArray, List.set_cons_zero, List.set_cons_succ]
      refine wpAnyH_take (i := 3) (v := .pointer (some ⟨bx, ox + k * 3, none⟩)) rfl (by kernel_rfl) (by kernel_rfl) (by kernel_rfl) (fun _ _ _ h => h) (Or.inl ⟨by rfl, ?_⟩) hHeld ?_
      · intro w' hSw; go_simp
      try simp only [Act.put, List.getElem_toArray, List.getElem_cons_succ, List.getElem_cons_zero, List.setIfInBounds_toArray, List.set_cons_zero, List.set_cons_succ]
      refine wpAnyH_take (i := 4) (v := .agg #[.int .i64 x.kind, .int .i64 x.n, .string ⟨x.s.toArray⟩]) rfl (by kernel_rfl) (by kernel_rfl) (by kernel_rfl) (fun _ _ _ h => h) (Or.inl ⟨by rfl, ?_⟩) hHeld ?_
      · intro w' hSw; obtain ⟨z0, z1, z2⟩ := (Hgx.out.agree (.below hSw (Nat.le_refl _)) (Nat.zero_le _) hbxw).c3; go_simp
      try simp only [Act.put, List.getElem_toArray, List.getElem_cons_succ, List.getElem_cons_zero, List.setIfInBounds_toArray, List.set_cons_zero, List.set_cons_succ]
      refine wpAnyH_take (i := 5) (v := .agg #[.int .i64 m.kind, .int .i64 m.n, .string ⟨m.s.toArray⟩]) rfl (by kernel_rfl) (by kernel_rfl) (by kernel_rfl) (fun _ _ _ h => h) (Or.inl ⟨by rfl, ?_⟩) hHeld ?_
      · intro w' hSw; have kx := (Hb5.out.below hSw hb5l).cells.runVar (P := Tryz.prog) (t := 44) (fun _ => by kernel_rfl) (fun _ => by kernel_rfl); obtain ⟨z0, z1, z2⟩ := (Hb5.out.below hSw hb5l).cells.c3; simp only [Nat.zero_add] at z1 z2; go_simp
      try simp only [Act.put, List.getElem_toArray, List.getElem_cons_succ, List.getElem_cons_zero, List.setIfInBounds_toArray, List.set_cons_zero, List.set_cons_succ]
      refine wpAnyH_ready (rs := [6]) (by kernel_rfl) (by simp) ?_
      refine allCall (f := 14) (args := #[x.agg, m.agg]) rfl (by kernel_rfl) (by kernel_rfl) ?_ AllReadyH.nil
      refine CompareG_any x m wo.drew _ (fun w5 hg5 => ?_)
      refine ⟨_, rfl, hS0.trans (hg5.below.mono (Nat.le_refl _)), ?_⟩
      have HB5 := Lib.hid (hS0.trans (hg5.below.mono (Nat.le_refl _)))
      clear hg5 hHeld
      have hHeld := HB5.out
      try simp only [Act.put, List.getElem_toArray, List.getElem_cons_succ, List.getElem_cons_zero, List.setIfInBounds_toArray, List.set_cons_zero, List.set_cons_succ]
      refine wpAnyH_take (i := 7) (v := .bool (decide (cmpV x m < 0))) rfl (by kernel_rfl) (by kernel_rfl) (by kernel_rfl) (fun _ _ _ h => h) (Or.inl ⟨by rfl, ?_⟩) hHeld ?_
      · intro w' hSw; go_simp
      try simp only [Act.put, List.getElem_toArray, List.getElem_cons_succ, List.getElem_cons_zero, List.setIfInBounds_toArray, List.set_cons_zero, List.set_cons_succ]
      refine wpAnyH_done (by kernel_rfl) ?_ _
      clear hHeld
      by_cases hcd : cmpV x m < 0
      · have hcb : decide (cmpV x m < 0) = true := decide_eq_true hcd
        have HcT := Lib.hid hcd
        rw [hcb]
        clear hcd
        have Hk5 := Lib.hid (Hb5.out.below HB5.out hb5l)
        have Hk4 := Lib.hid (Hb4.out.below HB5.out hb4l)
        obtain ⟨g0, g1, g2⟩ := (Hgx.out.agree (.below HB5.out (Nat.le_refl _)) (Nat.zero_le _) hbxw).c3
        have f0 := Hk5.out.free 0
        have f1 := Hk5.out.free 1
        have f2 := Hk5.out.free 2
        obtain ⟨e0, e1, e2⟩ := Hk5.out.cells.c3
        simp only [Nat.zero_add] at e1 e2
        have hzW := HB5.out.size
        have HN5 := Lib.hid (((Hk5.out.set 0 (.int .i64 x.kind)).set 1 (.int .i64 x.n)).set 2 (.string ⟨x.s.toArray⟩))
        have HN4 := Lib.hid (((Hk4.out.other (p := ⟨w.heap.size + 1, 0, none⟩) (show w.heap.size ≠ w.heap.size + 1 by omega) (.int .i64 x.kind)).other (p := ⟨w.heap.size + 1, 1, none⟩) (show w.heap.size ≠ w.heap.size + 1 by omega) (.int .i64 x.n)).other (p := ⟨w.heap.size + 1, 2, none⟩) (show w.heap.size ≠ w.heap.size + 1 by omega) (.string ⟨x.s.toArray⟩))
        have HNB := Lib.hid ((((HB.out.trans (HB5.out.mono hz)).setCell (p := ⟨w.heap.size + 1, 0, none⟩) (Nat.le_succ _) (.int .i64 x.kind)).setCell (p := ⟨w.heap.size + 1, 1, none⟩) (Nat.le_succ _) (.int .i64 x.n)).setCell (p := ⟨w.heap.size + 1, 2, none⟩) (Nat.le_succ _) (.string ⟨x.s.toArray⟩))
        go_wp2_with fail
        go_roundw
        case rel => exact ⟨k + 1, x, by omega, by omega, by go_num, HNB.out, by simp; omega, HN4.out, HN5.out, by rw [Hst.out]; simp, by
          rw [Hst.out]
          intro y hy
          rcases List.mem_append.1 hy with hy | hy
          · have h1 := Hall.out y hy
            have h2 := HcT.out
            intro h3
            have := cmpV_cmp.trans y x m h3 h2
            exact h1 this
          · rw [List.mem_singleton.1 hy, cmpV_cmp.self]; omega⟩
        case measure => simp [intOf]; omega
      · have hcb : decide (cmpV x m < 0) = false := decide_eq_false hcd
        have HcF := Lib.hid hcd
        rw [hcb]
        clear hcd
        have hzW := HB5.out.size
        go_wp2_with fail
        go_roundw
        case rel => exact ⟨k + 1, m, by omega, by omega, by go_num, HB.out.trans (HB5.out.mono hz), by omega, Hb4.out.below HB5.out hb4l, Hb5.out.below HB5.out hb5l, by rw [Hst.out]; exact List.mem_append_left _ Hm.out, by
          rw [Hst.out]
          intro y hy
          rcases List.mem_append.1 hy with hy | hy
          · exact Hall.out y hy
          · rw [List.mem_singleton.1 hy]; exact HcF.out⟩
        case measure => simp [intOf]; omega
    · obtain rfl : k = n := by omega
      have nn : ¬ ((k : Nat) : Int) < (k : Int) := by omega
      have hm := Hm.out
      have hall := Hall.out
      rw [List.take_of_length_le (by rw [← Hn.out]; exact Nat.le_refl _)] at hm hall
      have hr := HR.out
      rw [leastV_eq hm hall] at hr
      clear hm hall
      have f0 := Hb4.out.free 0
      have f1 := Hb4.out.free 1
      have f2 := Hb4.out.free 2
      obtain ⟨e0, e1, e2⟩ := Hb5.out.cells.c3
      simp only [Nat.zero_add] at e1 e2
      obtain ⟨d0, d1, d2⟩ := Hb4.out.cells.c3
      simp only [Nat.zero_add] at d1 d2
      have Hl5 := Lib.hid (Hb5.out.cells.runVar (P := Tryz.prog) (t := 44) (fun _ => by kernel_rfl) (fun _ => by kernel_rfl))
      have Hrv := Lib.hid ((((Hb4.out.set 0 (.int .i64 m.kind)).set 1 (.int .i64 m.n)).set 2 (.string ⟨m.s.toArray⟩)).cells.runVar (P := Tryz.prog) (t := 44) (fun _ => by kernel_rfl) (fun _ => by kernel_rfl))
      have Hr := Lib.hid (hr _ (((HB.out.setCell (p := ⟨w.heap.size, 0, none⟩) (Nat.le_refl _) (.int .i64 m.kind)).setCell (p := ⟨w.heap.size, 1, none⟩) (Nat.le_refl _) (.int .i64 m.n)).setCell (p := ⟨w.heap.size, 2, none⟩) (Nat.le_refl _) (.string ⟨m.s.toArray⟩)))
      clear hr
      go_wp2_with fail
      exact ret_cell rfl rfl Hrv.out rfl Hr.out
set_option maxRecDepth 100000 in
set_option maxHeartbeats 4000000 in
theorem MaxFunc_any (lo hi : Nat) (l : List V) (v : Value) (w : World) (hv : Row1 lo hi w v l) (hhi : hi ≤ w.heap.size) (hne : 0 < l.length) (R : Ending → World → Prop)
    (hR : ∀ w', Below w.heap.size w w' → R (.returned (greatV l).agg) w') : Calls Tryz.prog 68 #[v, .func (.func 14) #[] #[]] w R := by
  have HR := Lib.hid hR
  have Hv := Lib.hid hv
  obtain ⟨av, c, rfl, -, hcm, -, hc⟩ := hv.form
  have hnl := hv.len
  obtain ⟨bx, ox, rfl, hbx1, hbx2, hcc⟩ := hc 0 hne
  have Hcc := Lib.hid hcc
  clear hR hv hc hcc
  obtain ⟨n, hn⟩ : ∃ n, n = l.length := ⟨_, rfl⟩
  rw [← hn] at hne hnl ⊢
  have Hn := Lib.hid hn
  have c1 : ¬ (n : Int) < 1 := by omega
  have hl0 : 0 < l.length := by rw [← hn]; exact hne
  clear hn
  obtain ⟨x0, hx0⟩ : ∃ x0, x0 = l[0] := ⟨_, rfl⟩
  have Hx0 := Lib.hid hx0
  obtain ⟨cs, -, hcs, ecs⟩ := Hcc.out 0 hl0
  obtain rfl : cs = V.enc x0 := by rw [hx0]; exact ecs
  clear hx0
  obtain ⟨g0, g1, g2⟩ := hcs.c3
  simp only [Nat.zero_mul, Nat.add_zero] at g0 g1 g2
  have Hcs0 := Lib.hid hcs
  clear hcs
  go_enter Tryz.func68, Tryz.ntmps68
  go_upto_region 3 with fail
  have hBa := alloc_below w (.cells #[.int .i64 0, .int .i64 0, .string ⟨#[]⟩] 44)
  have hba := Blk.new w [.int .i64 0, .int .i64 0, .string ⟨#[]⟩] 44 rfl
  have hsa : (w.alloc (.cells #[.int .i64 0, .int .i64 0, .string ⟨#[]⟩] 44)).heap.size = w.heap.size + 1 := by simp
  have ga := (Hcs0.out.agree (.below hBa hhi) (Nat.zero_le _) hbx2)
  generalize w.alloc (.cells #[.int .i64 0, .int .i64 0, .string ⟨#[]⟩] 44) = wa at *
  clear g0 g1 g2
  obtain ⟨g0, g1, g2⟩ := ga.c3
  simp only [Nat.zero_mul, Nat.add_zero] at g0 g1 g2
  have Hba := Lib.hid hba
  have HBa := Lib.hid hBa
  have Hsa := Lib.hid hsa
  clear ga hba hBa hsa
  go_upto_region 4 with fail
  rw [Hsa.out]
  have hBb := alloc_below wa (.cells #[.int .i64 x0.kind, .int .i64 x0.n, .string ⟨x0.s.toArray⟩] 44)
  have hbb : Blk _ (w.heap.size + 1) [.int .i64 x0.kind, .int .i64 x0.n, .string ⟨x0.s.toArray⟩] 44 := Blk.new wa [.int .i64 x0.kind, .int .i64 x0.n, .string ⟨x0.s.toArray⟩] 44 Hsa.out.symm
  generalize wa.alloc (.cells #[.int .i64 x0.kind, .int .i64 x0.n, .string ⟨x0.s.toArray⟩] 44) = w2 at *
  have hsa := Hsa.out
  have HB2 := Lib.hid (HBa.out.trans (hBb.mono (by omega)))
  have H4 := Lib.hid (Hba.out.below hBb (by omega))
  have H5 := Lib.hid hbb
  have hz2 : w.heap.size + 1 < w2.heap.size := hbb.lt
  clear hBb hbb hsa g0 g1 g2 Hba HBa
  go_wp2_with fail
  go_loopw [6] (fun t6 wr => ∃ (k : Nat) (m : V), 1 ≤ k ∧ k ≤ n ∧ t6 = .int .i64 k ∧ Below w.heap.size w wr ∧ w2.heap.size ≤ wr.heap.size ∧ Blk wr w.heap.size [.int .i64 0, .int .i64 0, .string ⟨#[]⟩] 44 ∧ Blk wr (w.heap.size + 1) [.int .i64 m.kind, .int .i64 m.n, .string ⟨m.s.toArray⟩] 44 ∧ m ∈ l.take k ∧ ∀ y ∈ l.take k, ¬ 0 < cmpV y m) (fun t6 _ => n - (intOf t6).toNat)
  case atStart => exact ⟨1, x0, Nat.le_refl _, by omega, rfl, HB2.out, Nat.le_refl _, H4.out, H5.out, by
    rw [Hx0.out, List.take_succ_eq_append_getElem (show 0 < l.length by have := Hn.out; omega)]; simp, by
    rw [List.take_succ_eq_append_getElem (show 0 < l.length by have := Hn.out; omega)]
    intro y hy
    simp at hy
    rw [hy, ← Hx0.out, cmpV_cmp.self]
    omega⟩
  case round =>
    obtain ⟨k, m, hk1, hkn, rfl, hB, hzr, h4, h5, hm, hall⟩ := hrel
    obtain ⟨wo, ewo⟩ : ∃ x, x = wr := ⟨_, rfl⟩
    subst ewo
    have HB := Lib.hid hB
    have Hb4 := Lib.hid h4
    have Hb5 := Lib.hid h5
    have Hm := Lib.hid hm
    have Hall := Lib.hid hall
    have hz := hB.size
    have hb5l := h5.lt
    have hb4l := h4.lt
    have kk0 : (0 : Int) ≤ (k : Int) := by omega
    clear hB h4 h5 hm hall
    by_cases hlt : k < n
    · have hkl : k < l.length := by rw [← Hn.out]; exact hlt
      obtain ⟨x, hx⟩ : ∃ x, x = l[k] := ⟨_, rfl⟩
      have Hst := Lib.hid (List.take_succ_eq_append_getElem hkl)
      rw [← hx] at Hst
      obtain ⟨cs, -, hcs, ecs⟩ := Hcc.out k hkl
      obtain rfl : cs = V.enc x := by rw [hx]; exact ecs
      have Hgx := Lib.hid (hcs.agree (.below HB.out hhi) (Nat.zero_le _) hbx2)
      have hbxw : bx < wo.heap.size := by omega
      have kn : (k : Int) < (n : Int) := by omega
      clear hcs hx
      go_upto_region 7 with fail
      have hS0 : Below wo.heap.size wo wo.drew := (Below.refl _ _).drew
      refine wp_region_held_drew (S := fun w' => Below wo.heap.size wo w') (by kernel_rfl) hS0 (fun hHeld => ?_)
      refine wpAnyH_take (i := 0) (v := .func (.func 14) #[] #[]) rfl (by kernel_rfl) (by kernel_rfl) (by kernel_rfl) (fun _ _ _ h => h) (Or.inl ⟨by rfl, ?_⟩) hHeld ?_
      · intro w' hSw; go_simp
      try simp only [Act.put, List.getElem_toArray, List.getElem_cons_succ, List.getElem_cons_zero, List.setIfInBounds_toArray, List.set_cons_zero, List.set_cons_succ]
      refine wpAnyH_take (i := 1) (v := .slice (some ⟨bx, ox, none⟩) n c) rfl (by kernel_rfl) (by kernel_rfl) (by kernel_rfl) (fun _ _ _ h => h) (Or.inl ⟨by rfl, ?_⟩) hHeld ?_
      · intro w' hSw; go_simp
      try simp only [Act.put, List.getElem_toArray, List.getElem_cons_succ, List.getElem_cons_zero, List.setIfInBounds_toArray, List.set_cons_zero, List.set_cons_succ]
      refine wpAnyH_take (i := 2) (v := .int .i64 ((k : Int))) rfl (by kernel_rfl) (by kernel_rfl) (by kernel_rfl) (fun _ _ _ h => h) (Or.inl ⟨by rfl, ?_⟩) hHeld ?_
      · intro w' hSw; go_simp
      try simp only [Act.put, List.getElem_toArray, List.getElem_cons_succ, List.getElem_cons_zero, List.setIfInBounds_toArray, List.set_cons_zero, List.set_cons_succ]
      refine wpAnyH_take (i := 3) (v := .pointer (some ⟨bx, ox + k * 3, none⟩)) rfl (by kernel_rfl) (by kernel_rfl) (by kernel_rfl) (fun _ _ _ h => h) (Or.inl ⟨by rfl, ?_⟩) hHeld ?_
      · intro w' hSw; go_simp
      try simp only [Act.put, List.getElem_toArray, List.getElem_cons_succ, List.getElem_cons_zero, List.setIfInBounds_toArray, List.set_cons_zero, List.set_cons_succ]
      refine wpAnyH_take (i := 4) (v := .agg #[.int .i64 x.kind, .int .i64 x.n, .string ⟨x.s.toArray⟩]) rfl (by kernel_rfl) (by kernel_rfl) (by kernel_rfl) (fun _ _ _ h => h) (Or.inl ⟨by rfl, ?_⟩) hHeld ?_
      · intro w' hSw; obtain ⟨z0, z1, z2⟩ := (Hgx.out.agree (.below hSw (Nat.le_refl _)) (Nat.zero_le _) hbxw).c3; go_simp
      try simp only [Act.put, List.getElem_toArray, List.getElem_cons_succ, List.getElem_cons_zero, List.setIfInBounds_toArray, List.set_cons_zero, List.set_cons_succ]
      refine wpAnyH_take (i := 5) (v := .agg #[.int .i64 m.kind, .int .i64 m.n, .string ⟨m.s.toArray⟩]) rfl (by kernel_rfl) (by kernel_rfl) (by kernel_rfl) (fun _ _ _ h => h) (Or.inl ⟨by rfl, ?_⟩) hHeld ?_
      · intro w' hSw; have kx := (Hb5.out.below hSw hb5l).cells.runVar (P := Tryz.prog) (t := 44) (fun _ => by kernel_rfl) (fun _ => by kernel_rfl); obtain ⟨z0, z1, z2⟩ := (Hb5.out.below hSw hb5l).cells.c3; simp only [Nat.zero_add] at z1 z2; go_simp
      try simp only [Act.put, List.getElem_toArray, List.getElem_cons_succ, List.getElem_cons_zero, List.setIfInBounds_toArray, List.set_cons_zero, List.set_cons_succ]
      refine wpAnyH_ready (rs := [6]) (by kernel_rfl) (by simp) ?_
      refine allCall (f := 14) (args := #[x.agg, m.agg]) rfl (by kernel_rfl) (by kernel_rfl) ?_ AllReadyH.nil
      refine CompareG_any x m wo.drew _ (fun w5 hg5 => ?_)
      refine ⟨_, rfl, hS0.trans (hg5.below.mono (Nat.le_refl _)), ?_⟩
      have HB5 := Lib.hid (hS0.trans (hg5.below.mono (Nat.le_refl _)))
      clear hg5 hHeld
      have hHeld := HB5.out
      try simp only [Act.put, List.getElem_toArray, List.getElem_cons_succ, List.getElem_cons_zero, List.setIfInBounds_toArray, List.set_cons_zero, List.set_cons_succ]
      refine wpAnyH_take (i := 7) (v := .bool (decide (0 < cmpV x m))) rfl (by kernel_rfl) (by kernel_rfl) (by kernel_rfl) (fun _ _ _ h => h) (Or.inl ⟨by rfl, ?_⟩) hHeld ?_
      · intro w' hSw; go_simp
      try simp only [Act.put, List.getElem_toArray, List.getElem_cons_succ, List.getElem_cons_zero, List.setIfInBounds_toArray, List.set_cons_zero, List.set_cons_succ]
      refine wpAnyH_done (by kernel_rfl) ?_ _
      clear hHeld
      by_cases hcd : 0 < cmpV x m
      · have hcb : decide (0 < cmpV x m) = true := decide_eq_true hcd
        have HcT := Lib.hid hcd
        rw [hcb]
        clear hcd
        have Hk5 := Lib.hid (Hb5.out.below HB5.out hb5l)
        have Hk4 := Lib.hid (Hb4.out.below HB5.out hb4l)
        obtain ⟨g0, g1, g2⟩ := (Hgx.out.agree (.below HB5.out (Nat.le_refl _)) (Nat.zero_le _) hbxw).c3
        have f0 := Hk5.out.free 0
        have f1 := Hk5.out.free 1
        have f2 := Hk5.out.free 2
        obtain ⟨e0, e1, e2⟩ := Hk5.out.cells.c3
        simp only [Nat.zero_add] at e1 e2
        have hzW := HB5.out.size
        have HN5 := Lib.hid (((Hk5.out.set 0 (.int .i64 x.kind)).set 1 (.int .i64 x.n)).set 2 (.string ⟨x.s.toArray⟩))
        have HN4 := Lib.hid (((Hk4.out.other (p := ⟨w.heap.size + 1, 0, none⟩) (show w.heap.size ≠ w.heap.size + 1 by omega) (.int .i64 x.kind)).other (p := ⟨w.heap.size + 1, 1, none⟩) (show w.heap.size ≠ w.heap.size + 1 by omega) (.int .i64 x.n)).other (p := ⟨w.heap.size + 1, 2, none⟩) (show w.heap.size ≠ w.heap.size + 1 by omega) (.string ⟨x.s.toArray⟩))
        have HNB := Lib.hid ((((HB.out.trans (HB5.out.mono hz)).setCell (p := ⟨w.heap.size + 1, 0, none⟩) (Nat.le_succ _) (.int .i64 x.kind)).setCell (p := ⟨w.heap.size + 1, 1, none⟩) (Nat.le_succ _) (.int .i64 x.n)).setCell (p := ⟨w.heap.size + 1, 2, none⟩) (Nat.le_succ _) (.string ⟨x.s.toArray⟩))
        go_wp2_with fail
        go_roundw
        case rel => exact ⟨k + 1, x, by omega, by omega, by go_num, HNB.out, by simp; omega, HN4.out, HN5.out, by rw [Hst.out]; simp, by
          rw [Hst.out]
          intro y hy
          rcases List.mem_append.1 hy with hy | hy
          · have h1 := Hall.out y hy
            have h2 := HcT.out
            intro h3
            have a1 := cmpV_cmp.anti y x
            have a2 := cmpV_cmp.anti x m
            have a3 := cmpV_cmp.anti y m
            have := cmpV_cmp.trans m x y (by omega) (by omega)
            omega
          · rw [List.mem_singleton.1 hy, cmpV_cmp.self]; omega⟩
        case measure => simp [intOf]; omega
      · have hcb : decide (0 < cmpV x m) = false := decide_eq_false hcd
        have HcF := Lib.hid hcd
        rw [hcb]
        clear hcd
        have hzW := HB5.out.size
        go_wp2_with fail
        go_roundw
        case rel => exact ⟨k + 1, m, by omega, by omega, by go_num, HB.out.trans (HB5.out.mono hz), by omega, Hb4.out.below HB5.out hb4l, Hb5.out.below HB5.out hb5l, by rw [Hst.out]; exact List.mem_append_left _ Hm.out, by
          rw [Hst.out]
          intro y hy
          rcases List.mem_append.1 hy with hy | hy
          · exact Hall.out y hy
          · rw [List.mem_singleton.1 hy]; exact HcF.out⟩
        case measure => simp [intOf]; omega
    · obtain rfl : k = n := by omega
      have nn : ¬ ((k : Nat) : Int) < (k : Int) := by omega
      have hm := Hm.out
      have hall := Hall.out
      rw [List.take_of_length_le (by rw [← Hn.out]; exact Nat.le_refl _)] at hm hall
      have hr := HR.out
      rw [greatV_eq hm hall] at hr
      clear hm hall
      have f0 := Hb4.out.free 0
      have f1 := Hb4.out.free 1
      have f2 := Hb4.out.free 2
      obtain ⟨e0, e1, e2⟩ := Hb5.out.cells.c3
      simp only [Nat.zero_add] at e1 e2
      obtain ⟨d0, d1, d2⟩ := Hb4.out.cells.c3
      simp only [Nat.zero_add] at d1 d2
      have Hl5 := Lib.hid (Hb5.out.cells.runVar (P := Tryz.prog) (t := 44) (fun _ => by kernel_rfl) (fun _ => by kernel_rfl))
      have Hrv := Lib.hid ((((Hb4.out.set 0 (.int .i64 m.kind)).set 1 (.int .i64 m.n)).set 2 (.string ⟨m.s.toArray⟩)).cells.runVar (P := Tryz.prog) (t := 44) (fun _ => by kernel_rfl) (fun _ => by kernel_rfl))
      have Hr := Lib.hid (hr _ (((HB.out.setCell (p := ⟨w.heap.size, 0, none⟩) (Nat.le_refl _) (.int .i64 m.kind)).setCell (p := ⟨w.heap.size, 1, none⟩) (Nat.le_refl _) (.int .i64 m.n)).setCell (p := ⟨w.heap.size, 2, none⟩) (Nat.le_refl _) (.string ⟨m.s.toArray⟩)))
      clear hr
      go_wp2_with fail
      exact ret_cell rfl rfl Hrv.out rfl Hr.out
end Go.Proofs.YtmconajkgjfplaaGreat
end

/- fold.Total and the document's: the sum of numbers, or that there is none. -/
section
set_option linter.unusedVariables false
set_option linter.unusedSimpArgs false
namespace Go.Proofs.YtmconajkgjfplaaGreat
open Go.RowKit

theorem run_Add64 (x y c : Int) (hx : 0 ≤ x) (hy : 0 ≤ y) (hc0 : 0 ≤ c) (hc : c ≤ 1) (w : World) :
    (callFunc 106 #[.int .u64 x, .int .u64 y, .int .u64 c]).run Tryz.prog w = .ok (.value (.tuple #[.int .u64 (addLo x y c), .int .u64 (addHi x y c)])) w := by
  rw [run_callFunc_extern Tryz.func106 (by kernel_rfl) (by kernel_rfl) (by kernel_rfl) (e := add64Entry) (by kernel_rfl), run_add64 x y c hx hy hc0 hc]
  rfl

set_option maxRecDepth 100000 in
set_option maxHeartbeats 1000000 in
theorem wide_add (B : Nat) (lo hi n : Int) (w : World) (h0 : w.cell? ⟨B, 0, none⟩ = some (.int .u64 lo)) (h1 : w.cell? ⟨B, 1, none⟩ = some (.int .u64 hi)) (f0 : w.frozen? ⟨B, 0, none⟩ = false) (f1 : w.frozen? ⟨B, 1, none⟩ = false)
    (l0 : 0 ≤ lo) (l1 : lo < W64) (u0 : 0 ≤ hi) (u1 : hi < W64) (R : Ending → World → Prop)
    (hR : R (.returned (.tuple #[])) ((w.setCell ⟨B, 0, none⟩ (.int .u64 (addLo lo (up n) 0))).setCell ⟨B, 1, none⟩ (.int .u64 (addLo hi (sg n) (addHi lo (up n) 0)))).drew) :
    Calls Tryz.prog 88 #[.pointer (some ⟨B, 0, none⟩), .int .i64 n] w R := by
  have hb := addHi_bd l0 l1 (up_bd n).1 (up_bd n).2 (Int.le_refl 0) (by decide)
  have hA : ∀ w, (callFunc 106 #[.int .u64 lo, .int .u64 (IntKind.u64.wrap n), .int .u64 0]).run Tryz.prog w = .ok (.value (.tuple #[.int .u64 (addLo lo (up n) 0), .int .u64 (addHi lo (up n) 0)])) w :=
    fun w => run_Add64 _ _ _ l0 (up_bd n).1 (Int.le_refl 0) (by decide) w
  have hA2 : ∀ w, (callFunc 106 #[.int .u64 hi, .int .u64 (IntKind.u64.wrap (n / 9223372036854775808)), .int .u64 (addHi lo (up n) 0)]).run Tryz.prog w =
      .ok (.value (.tuple #[.int .u64 (addLo hi (sg n) (addHi lo (up n) 0)), .int .u64 (addHi hi (sg n) (addHi lo (up n) 0))])) w :=
    fun w => run_Add64 _ _ _ u0 (sg_bd n).1 hb.1 hb.2 w
  generalize addLo lo (up n) 0 = a0 at *
  generalize addHi lo (up n) 0 = a1 at *
  generalize addLo hi (sg n) a1 = a2 at *
  clear hb
  go_enter Tryz.func88, Tryz.ntmps88
  go_wp2_with fail
  go_region
  go_end0
  exact hR

set_option maxRecDepth 100000 in
set_option maxHeartbeats 1000000 in
theorem wide_number (lo hi : Int) (w : World) (R : Ending → World → Prop)
    (hR : ∀ w', Below w.heap.size w w' → R (.returned (.tuple #[.int .i64 (wrap64 lo), .bool (hi == sg (wrap64 lo))])) w') :
    Calls Tryz.prog 89 #[.agg #[.int .u64 lo, .int .u64 hi]] w R := by
  go_enter Tryz.func89, Tryz.ntmps89
  go_wp2_with fail
  go_quiet (fail)
  go_wp2_with fail
  exact drewN ((Below.refl _ _).alloc (Nat.le_refl _) _) _

/-- What both answer: a number, or none (160). -/
def totalV (o : Option Int) : Value := .tuple #[.agg #[.int .i64 (if o.isSome then 1 else 0), .int .i64 (o.getD 0), .string ⟨([] : List UInt8).toArray⟩], .int .i64 (if o.isSome then 0 else 160)]

set_option maxRecDepth 100000 in
set_option maxHeartbeats 1000000 in
theorem Total_any (lo hi : Nat) (v : Value) (l : List V) (w : World) (hv : Sl (flat V.enc) 3 lo hi w v l) (hhi : hi ≤ w.heap.size) (hok : ∀ x ∈ l, x.ok) (hlen : l.length ≤ 1000) (R : Ending → World → Prop)
    (hR : ∀ w', Below w.heap.size w w' → R (.returned (totalV (total l))) w') : Calls Tryz.prog 66 #[v] w R := by
  obtain ⟨ao, cap, rfl, hl1, hl2, _, hc⟩ := hv.form
  have Hc := Lib.hid hc
  clear hc
  have he : ∀ args w, (callFunc 88 args).run Tryz.prog w = .ok (.enter 88 args) w := enters_of Tryz.func88 (by kernel_rfl) rfl
  go_enter Tryz.func66, Tryz.ntmps66
  go_wp2_with fail
  go_loopw [7, 13] (fun _ t13 wr => ∃ (k : Nat) (a b : Int), k ≤ l.length ∧ t13 = .int .i64 k ∧ (l.take k).all (fun v => v.kind == 1) = true ∧ Says a b (((l.take k).map V.n).sum) ∧
      Below w.heap.size w wr ∧ Blk wr w.heap.size [.int .i64 0, .int .i64 0, .string ⟨#[]⟩] 44 ∧ Blk wr (w.heap.size + 1) [.int .u64 a, .int .u64 b] 123) (fun _ t13 _ => l.length - (intOf t13).toNat)
  case atStart =>
    exact ⟨0, 0, 0, Nat.zero_le _, rfl, rfl, says_zero, ((Below.refl _ _).alloc (Nat.le_refl _) _).alloc (by simp) _, (Blk.new _ _ _ rfl).alloc _, Blk.new _ _ _ (by simp)⟩
  case round =>
    obtain ⟨k, a, b, hk, rfl, hall, hs, hB, hz, hw⟩ := hrel
    have Hall := Lib.hid hall
    clear hall
    obtain ⟨z0, z1, z2⟩ := hz.cells.c3
    obtain ⟨cw0, cw1⟩ := hw.cells.c2
    have fz0 := hz.free 0
    have fz1 := hz.free 1
    have fz2 := hz.free 2
    have fw0 := hw.free 0
    have fw1 := hw.free 1
    simp only [Nat.zero_add] at z0 z1 z2 cw0 cw1
    have hzl := hz.lt
    have hwl := hw.lt
    by_cases hlt : k < l.length
    · obtain ⟨b0, off, rfl, hb1, hb2, hcc⟩ := Hc.out k hlt
      obtain ⟨cs, _, hcs, rfl⟩ := hcc k hlt
      obtain ⟨h0, h1, h2⟩ := (hcs.agree (.below hB hhi) hb1 hb2).c3
      have hxo := hok _ (List.getElem_mem hlt)
      have hall2 := Lib.hid (all_take_succ l (fun v => v.kind == 1) k hlt)
      have hsum := Lib.hid (List.take_succ_eq_append_getElem hlt)
      clear hcc hcs
      generalize hx : l[k] = x at *
      have Hx := Lib.hid hx
      clear hx
      by_cases hkind : x.kind = 1
      · have hb : x.kind ≠ 1 ∨ True := .inr trivial
        clear hb
        have Hk := Lib.hid hkind
        have hne : (x.kind != 1) = false := by simp [hkind]
        clear hkind
        go_wp2_with fail
        obtain ⟨sa0, sa1, sb0, sb1, -⟩ := id hs
        have hB1 : Below w.heap.size w (wr.alloc (Obj.cells #[.int .i64 x.kind, .int .i64 x.n, .string ⟨x.s.toArray⟩] 44)) := hB.alloc hB.size _
        have hz1 := hz.alloc (Obj.cells #[.int .i64 x.kind, .int .i64 x.n, .string ⟨x.s.toArray⟩] 44)
        have hw1 := hw.alloc (Obj.cells #[.int .i64 x.kind, .int .i64 x.n, .string ⟨x.s.toArray⟩] 44)
        generalize hwr : wr.alloc (Obj.cells #[.int .i64 x.kind, .int .i64 x.n, .string ⟨x.s.toArray⟩] 44) = wx at *
        clear hwr
        have q0 := (hw1.cells.c2).1
        have q1 := (hw1.cells.c2).2
        rw [Nat.zero_add] at q1
        refine wide_add (w.heap.size + 1) a b x.n wx q0 q1 (hw1.free 0) (hw1.free 1) sa0 sa1 sb0 sb1 _ ?_
        have hB2 := ((hB1.setCell (p := ⟨w.heap.size + 1, 0, none⟩) (Nat.le_succ _) (.int .u64 (addLo a (up x.n) 0))).setCell (p := ⟨w.heap.size + 1, 1, none⟩) (Nat.le_succ _) (.int .u64 (addLo b (sg x.n) (addHi a (up x.n) 0)))).drew
        have hz2 := ((hz1.other (p := ⟨w.heap.size + 1, 0, none⟩) (by simp) (.int .u64 (addLo a (up x.n) 0))).other (p := ⟨w.heap.size + 1, 1, none⟩) (by simp) (.int .u64 (addLo b (sg x.n) (addHi a (up x.n) 0)))).drew
        have hw2 := ((hw1.set 0 (.int .u64 (addLo a (up x.n) 0))).set 1 (.int .u64 (addLo b (sg x.n) (addHi a (up x.n) 0)))).drew
        have hs2 := says_add hs hxo.1.1 hxo.1.2
        generalize ((wx.setCell ⟨w.heap.size + 1, 0, none⟩ (.int .u64 (addLo a (up x.n) 0))).setCell ⟨w.heap.size + 1, 1, none⟩ (.int .u64 (addLo b (sg x.n) (addHi a (up x.n) 0)))).drew = wy at *
        clear hz hw hz1 hw1 hB1 q0 q1 z0 z1 z2 cw0 cw1 fz0 fz1 fz2 fw0 fw1 h0 h1 h2
        go_wp2_with fail
        go_roundw
        case rel => exact ⟨k + 1, _, _, by omega, by go_num, by rw [hall2.out, Hall.out]; simp [Hk.out], by rw [hsum.out, List.map_append, List.sum_append]; simpa using hs2, hB2, hz2, hw2⟩
        case measure => simp [intOf]; omega
      · have hne : (x.kind != 1) = true := by simp [hkind]
        have Hk := Lib.hid hkind
        clear hkind
        have Ht : Hid (total l = none) := by
          have : l.all (fun v => v.kind == 1) = false := by
            rw [List.all_eq_false]
            exact ⟨x, Hx.out ▸ List.getElem_mem hlt, by simpa using Hk.out⟩
          simp [Hid, total, this]
        go_wp2_with fail
        rw [Ht.out] at hR
        exact ret_cell_tmp rfl rfl (((((hz.set 0 (.int .i64 0)).set 1 (.int .i64 0)).set 2 (.string ⟨#[]⟩)).alloc _).cells.runVar (fun _ => by kernel_rfl) (fun _ => by kernel_rfl)) rfl rfl
          (hR _ ((((hB.setCell (p := ⟨w.heap.size, 0, none⟩) (Nat.le_refl _) _).setCell (p := ⟨w.heap.size, 1, none⟩) (Nat.le_refl _) _).setCell (p := ⟨w.heap.size, 2, none⟩) (Nat.le_refl _) _).alloc (by simp; omega) _))
    · have e : k = l.length := by omega
      subst e
      rw [List.take_length] at hs
      have Ha : Hid (l.all (fun v => v.kind == 1) = true) := by have := Hall.out; rwa [List.take_length] at this
      have hbd := sum_bd l hok
      obtain ⟨hn1, hn2⟩ := says_number hs (by omega) (by omega)
      have Hn1 := Lib.hid hn1
      have Hn2 := Lib.hid hn2
      clear hn1 hn2 hbd
      go_wp2_with fail
      refine wide_number a b _ _ fun w1 hB1 => ?_
      have hB2 := hB.trans (hB1.mono hB.size)
      have hz2 := hz.below hB1 hzl
      obtain ⟨y0, y1, y2⟩ := hz2.cells.c3
      have gz0 := hz2.free 0
      have gz1 := hz2.free 1
      have gz2 := hz2.free 2
      simp only [Nat.zero_add] at y0 y1 y2
      clear z0 z1 z2 fz0 fz1 fz2 cw0 cw1 fw0 fw1
      by_cases hin : inI64 ((l.map V.n).sum)
      · have Ht : Hid (total l = some (wrap64 a)) := by rw [Hid, total, if_pos Ha.out, if_pos hin, Hn2.out hin]
        have e : (b == sg (wrap64 a)) = true := by simpa using Hn1.out.2 hin
        rw [e]
        clear e
        rw [Ht.out] at hR
        clear hin
        generalize wrap64 a = n at *
        go_wp2_with fail
        exact ret_cell_tmp rfl rfl ((((hz2.set 0 (.int .i64 1)).set 1 (.int .i64 n)).set 2 (.string ⟨#[]⟩)).cells.runVar (fun _ => by kernel_rfl) (fun _ => by kernel_rfl)) rfl rfl
          (hR _ (((hB2.setCell (p := ⟨w.heap.size, 0, none⟩) (Nat.le_refl _) _).setCell (p := ⟨w.heap.size, 1, none⟩) (Nat.le_refl _) _).setCell (p := ⟨w.heap.size, 2, none⟩) (Nat.le_refl _) _))
      · have Ht : Hid (total l = none) := by rw [Hid, total, if_pos Ha.out, if_neg hin]
        have e : (b == sg (wrap64 a)) = false := by
          have := fun h => hin (Hn1.out.1 h)
          simpa using this
        rw [e]
        clear e
        rw [Ht.out] at hR
        clear hin
        generalize wrap64 a = n at *
        go_wp2_with fail
        exact ret_cell_tmp rfl rfl ((((hz2.set 0 (.int .i64 0)).set 1 (.int .i64 0)).set 2 (.string ⟨#[]⟩)).cells.runVar (fun _ => by kernel_rfl) (fun _ => by kernel_rfl)) rfl rfl
          (hR _ (((hB2.setCell (p := ⟨w.heap.size, 0, none⟩) (Nat.le_refl _) _).setCell (p := ⟨w.heap.size, 1, none⟩) (Nat.le_refl _) _).setCell (p := ⟨w.heap.size, 2, none⟩) (Nat.le_refl _) _))
end Go.Proofs.YtmconajkgjfplaaGreat
end
