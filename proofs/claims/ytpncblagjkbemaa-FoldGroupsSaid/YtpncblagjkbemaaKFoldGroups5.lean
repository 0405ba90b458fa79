/- FoldGroups holds outright: for any relation and columns the call returns true, and the arguments read behind it as before. No condition. -/
import Derived.Test.YtpncblagjkbemaaKFoldGroups4
/- fold.Groups. (Printed by fldh.py.) -/
section
set_option linter.unusedVariables false
set_option linter.unusedSimpArgs false
namespace Go.Proofs.Ytpncblagjkbemaa
open Go.RowKit Go.Shelf
set_option linter.unusedVariables false
set_option linter.unusedSimpArgs false
attribute [local go_sem] Oper.semAt_some

theorem RLs.lower {lo lo' : Nat} {W : World} {v : Value} {cols : List S} {rs : List (List (List V))} (h : RLs lo W v cols rs) (hl : lo' ≤ lo) : RLs lo' W v cols rs := by
  obtain ⟨hs, bs, h1, h2, ho, hp, hi⟩ := h
  exact ⟨hs, bs, h1, h2, Own.lower ho hl, hp, fun i q1 q2 q3 => ⟨Nat.le_trans hl (hi i q1 q2 q3).1, (hi i q1 q2 q3).2⟩⟩
theorem CellsAt.turn {W W' : World} {b o : Nat} {cs : List Value} (h : CellsAt W b o cs) (hne : 0 < cs.length) {L : Nat} {ob : Obj} (hl : W.heap[L]? = some ob) (hc : ob.isCells = false) (hO : Only (· = L) W W') : CellsAt W' b o cs := by
  have hbl : b ≠ L := by
    rintro rfl
    have := h 0 _ (List.getElem?_eq_getElem hne)
    simp only [World.cell?, hl] at this
    cases ob <;> first | (simp at this; done) | cases hc
  have hlt : b < W.heap.size := by
    by_cases hb : b < W.heap.size
    · exact hb
    · have := h 0 _ (List.getElem?_eq_getElem hne)
      simp only [World.cell?, Array.getElem?_eq_none (show W.heap.size ≤ b by omega)] at this
      cases this
  intro j u hu
  have h1 := h j u hu
  have h2 := hO.block b hlt hbl
  simp only [World.cell?] at h1 ⊢
  rw [h2]
  exact h1
theorem Sl.turn {α : Type} {enc : α → List Value} {size lo hi : Nat} {W W' : World} {v : Value} {xs : List α} (h : Sl (flat enc) size lo hi W v xs) (hs : 0 < size) {L : Nat} {ob : Obj} (hl : W.heap[L]? = some ob) (hc : ob.isCells = false) (hO : Only (· = L) W W') : Sl (flat enc) size lo hi W' v xs := by
  obtain ⟨ao, cap, e, h1, h2, h3, h4⟩ := h
  refine ⟨ao, cap, e, h1, h2, h3, fun hne => ?_⟩
  obtain ⟨b, off, e, q1, q2, q3⟩ := h4 hne
  exact ⟨b, off, e, q1, q2, fun k hk => by
    obtain ⟨cs, c1, c2, c3⟩ := q3 k hk
    exact ⟨cs, c1, c2.turn (by omega) hl hc hO, c3⟩⟩
theorem Rws.turn {lo hi : Nat} {W W' : World} {v : Value} {xs : List (List V)} (h : Rws lo hi W v xs) {L : Nat} {ob : Obj} (hl : W.heap[L]? = some ob) (hc : ob.isCells = false) (hO : Only (· = L) W W') : Rws lo hi W' v xs := by
  obtain ⟨ao, cap, e, h1, h2, h3, h4⟩ := h
  refine ⟨ao, cap, e, h1, h2, h3, fun hne => ?_⟩
  obtain ⟨b, off, e, q1, q2, q3⟩ := h4 hne
  exact ⟨b, off, e, q1, q2, fun k hk => by
    obtain ⟨cs, c1, c2, sv, c3, c4⟩ := q3 k hk
    exact ⟨cs, c1, c2.turn (by omega) hl hc hO, sv, c3, Sl.turn c4 (by omega) hl hc hO⟩⟩
/-- The groups of a relation, or the error. -/
def grpErr (rc : List S) (l : List (List V)) (cols : List S) : Int := if rightB rc l cols then 0 else 2
def grpK (rc cols : List S) (x : List V) : List V := pickL x (placesL cols rc)
def grpL (rc : List S) (l : List (List V)) (cols : List S) : List (List (List V)) := (keysL (grpK rc cols) l).map (withK (grpK rc cols) l)
/-- The end of Groups: its result cells are written, the marks are taken, the cells read. -/
theorem grTail {n : Nat} {fn : Func} {tmps : Array Value} {w w5 : World} {b4 b5 lo : Nat} {v x0 y0 : Value} {cols : List S} {rs : List (List (List V))} {err : Int} {Ds : List Nat} {R : Ending → World → Prop} (hfn : fn.results = #[.cell 4 44, .cell 5 25])
    (ht4 : tmps.getD 4 undef = .pointer (some ⟨b4, 0, none⟩)) (ht5 : tmps.getD 5 undef = .pointer (some ⟨b5, 0, none⟩)) (hb4 : Blk w5 b4 [x0] 44) (hb5 : Blk w5 b5 [y0] 25) (h45 : b4 ≠ b5) (hlo4 : w.heap.size ≤ b4) (hlo5 : w.heap.size ≤ b5) (hB : Below w.heap.size w w5)
    (hL : RLs lo w5 v cols rs) (h4 : b4 < lo) (h5 : b5 < lo) (hlo : w.heap.size ≤ lo) (hnd : Ds.Nodup) (hds : ∀ D ∈ Ds, w.heap.size ≤ D ∧ D < lo ∧ w5.heap[D]? = some (.deferred (some [])))
    (hRR : ∀ w', Below w.heap.size w w' → RLs w.heap.size w' v cols rs → R (.returned (.tuple #[v, .int .i64 err])) w') :
    LeavesInM Fence.wide n Try.prog fn tmps R (Ds.map markD) .returning ((w5.setCell ⟨b4, 0, none⟩ v).setCell ⟨b5, 0, none⟩ (.int .i64 err)) := by
  have k4 := hb4.set 0 v
  have k5 := hb5.other (p := ⟨b4, 0, none⟩) (Ne.symm h45) v
  have kL := hL.keptOnly (Only.setCell (A := (· = b4)) w5 (p := ⟨b4, 0, none⟩) rfl v) (fun b e => by have : b = b4 := e; omega)
  have kB := hB.setCell (p := ⟨b4, 0, none⟩) hlo4 v
  have kD : ∀ D ∈ Ds, (w5.setCell ⟨b4, 0, none⟩ v).heap[D]? = some (.deferred (some [])) := fun D hD => by
    have hne : D ≠ b4 := by
      rintro rfl
      have := (hds _ hD).2.2
      unfold Blk at hb4
      rw [hb4] at this
      cases this
    exact (Below.heap_setCell _ _ _ _ hne).trans (hds D hD).2.2
  generalize w5.setCell ⟨b4, 0, none⟩ v = w6 at *
  have m5 := k5.set 0 (.int .i64 err)
  have m4 := k4.other (p := ⟨b5, 0, none⟩) h45 (.int .i64 err)
  have mL := kL.keptOnly (Only.setCell (A := (· = b5)) w6 (p := ⟨b5, 0, none⟩) rfl (.int .i64 err)) (fun b e => by have : b = b5 := e; omega)
  have mB := kB.setCell (p := ⟨b5, 0, none⟩) hlo5 (.int .i64 err)
  have mD : ∀ D ∈ Ds, (w6.setCell ⟨b5, 0, none⟩ (.int .i64 err)).heap[D]? = some (.deferred (some [])) := fun D hD => by
    have hne : D ≠ b5 := by
      rintro rfl
      have := kD _ hD
      unfold Blk at k5
      rw [k5] at this
      cases this
    exact (Below.heap_setCell _ _ _ _ hne).trans (kD D hD)
  generalize w6.setCell ⟨b5, 0, none⟩ (.int .i64 err) = w7 at *
  refine marks_leave Ds w7 hnd mD (fun w' ho => ?_)
  have hA : ∀ D, D ∈ Ds → ∃ o, w7.heap[D]? = some o ∧ o.isCells = false := fun D hD => ⟨_, mD D hD, rfl⟩
  exact ⟨_, results_cells hfn ht4 ht5 ((m4.turns hA ho).cells.runVar1 (fun _ => by kernel_rfl)) ((m5.turns hA ho).cells.runVar1 (fun _ => by kernel_rfl)),
    hRR w' (mB.trans (ho.below mB.size (fun D hD => (hds D hD).1))) ((mL.keptOnly ho (fun D hD => (hds D hD).2.1)).lower hlo)⟩
/-- What the rounds of Groups keep. -/
structure GrJ (L D bo : Nat) (W5 : World) (rc : Obj) (cols : List S) (T : List (List (List V))) (k g : Nat) (W : World) : Prop where
  lp : W.heap[L]? = some rc
  df : W.heap[D]? = some (.deferred (some []))
  on : Only (fun z => z = bo ∨ z = L) W5 W
  ge : W5.heap.size ≤ g
  out : ∃ v, Blk W bo [v] 44 ∧ RLs W5.heap.size W v cols (T.take k) ∧ v.ownBlock ≠ some g
/-- One round more. -/
theorem grJ_step {RL : LoopState → Option Code → Loop} {L D bo k g : Nat} {W5 W3 w1 wE : World} {vk vE : Value} {cols : List S} {T : List (List (List V))} {tk : List (List V)}
    (hon : Only (fun z => z = bo ∨ z = L) W5 W3) (hL5 : L < W5.heap.size) (hD5 : D < W5.heap.size) (hDL : D ≠ L) (hbo5 : bo < W5.heap.size) (hbL : bo ≠ L) (hbD : bo ≠ D)
    (hl : W3.heap[L]? = some (.loop (RL .busy none))) (hd : W3.heap[D]? = some (.deferred (some []))) (hbk : Blk W3 bo [vk] 44) (hok : RLs W5.heap.size W3 vk cols (T.take k))
    (hne : vk.ownBlock ≠ some g) (hge : W5.heap.size ≤ g) (hg3 : g < W3.heap.size) (hB1 : Below W3.heap.size W3 w1) (htk : T.take (k + 1) = T.take k ++ [tk]) (hsn : RLs W5.heap.size wE vE cols (T.take k ++ [tk])) (hap : Appended w1 vk wE vE) :
    (wE.setCell ⟨bo, 0, none⟩ vE).heap[L]? = some (.loop (RL .busy none)) ∧
    GrJ L D bo W5 (.loop (RL .ready none)) cols T (k + 1) g ((wE.setCell ⟨bo, 0, none⟩ vE).putObj L (.loop (RL .ready none))) ∧ ((wE.setCell ⟨bo, 0, none⟩ vE).putObj L (.loop (RL .ready none))).heap[g]? = W3.heap[g]? := by
  have hz1 := hB1.size
  have hbk1 := hbk.below hB1 hbk.lt
  have hl1 := (hB1.block L (heap_lt hl)).trans hl
  have hd1 := (hB1.block D (heap_lt hd)).trans hd
  have hok1 := hok.kept hB1
  have hO : Only (fun z => vk.ownBlock = some z) w1 wE := ⟨hap.grown.os, hap.grown.tape, hap.grown.output, hap.grown.size, fun k hk hA => hap.grown.block k hk (fun e => hA e.symm)⟩
  have nl := RLs.ne_def hok1 hl1 rfl
  have nd := RLs.ne_def hok1 hd1 rfl
  have nb : ¬ vk.ownBlock = some bo := fun e => by have := (RLs.lt hok1 bo e).1; omega
  have hlE := (hO.block L (heap_lt hl1) nl).trans hl1
  have hdE := (hO.block D (heap_lt hd1) nd).trans hd1
  have hbkE := hO.blk hbk1 nb
  have hgE : wE.heap[g]? = W3.heap[g]? := (hO.block g (by omega) hne).trans (hB1.block g hg3)
  rw [← htk] at hsn
  have hS : Only (· = bo) wE (wE.setCell ⟨bo, 0, none⟩ vE) := Only.setCell (A := (· = bo)) wE (p := ⟨bo, 0, none⟩) rfl vE
  have hsF := hsn.keptOnly hS (fun b e => by have : b = bo := e; omega)
  have hlF : (wE.setCell ⟨bo, 0, none⟩ vE).heap[L]? = some (.loop (RL .busy none)) := (Below.heap_setCell _ _ _ _ (Ne.symm hbL)).trans hlE
  have hdF : (wE.setCell ⟨bo, 0, none⟩ vE).heap[D]? = some (.deferred (some [])) := (Below.heap_setCell _ _ _ _ (Ne.symm hbD)).trans hdE
  have hgF : (wE.setCell ⟨bo, 0, none⟩ vE).heap[g]? = W3.heap[g]? := (Below.heap_setCell _ _ _ _ (by show g ≠ bo; omega)).trans hgE
  have hzE := hO.size
  have hzS := hS.size
  have hp : Only (· = L) (wE.setCell ⟨bo, 0, none⟩ vE) ((wE.setCell ⟨bo, 0, none⟩ vE).putObj L (.loop (RL .ready none))) := Only.putObj (A := (· = L)) _ (b := L) rfl _
  refine ⟨hlF, ⟨World.putObj_heap_same (heap_lt hlF), (hp.block D (heap_lt hdF) hDL).trans hdF, ?_, hge, vE, hp.blk (hbkE.set 0 vE) hbL, hsF.keptOnly hp (fun b e => by have : b = L := e; omega), hap.apart (by omega) hne⟩, (hp.block g (by omega) (show ¬ g = L by omega)).trans hgF⟩
  have h1 := Only.into2 (Only.into2 hon (Below.only (A := fun _ => False) hB1) (fun _ _ h => h.elim)) hO (fun b hb h => by have := (RLs.lt hok1 b h).1; omega)
  exact h1.trans ((hS.mono (fun z _ hz => .inl hz)).trans (hp.mono (fun z _ hz => .inr hz)))
set_option maxRecDepth 1000000 in
set_option maxHeartbeats 16000000 in
theorem Groups_any (lo hi lc hc l2 h2 : Nat) (rc : List S) (ac : Option Addr) (cc : Nat) (l : List (List V)) (lv : Value) (cols : List S) (cv : Value) (w : World) (hrc : Strs lc hc w (.slice ac rc.length cc) rc) (hhc : hc ≤ w.heap.size) (hv : Rws lo hi w lv l) (hhi : hi ≤ w.heap.size) (hcols : Strs l2 h2 w cv cols) (hh2 : h2 ≤ w.heap.size) (hlen : cols.length ≤ 1000000000000) (R : Ending → World → Prop)
    (hR : ∀ w' v', Below w.heap.size w w' → RLs w.heap.size w' v' rc (okL (grpErr rc l cols) (grpL rc l cols)) → R (.returned (.tuple #[v', .int .i64 (grpErr rc l cols)])) w') :
    Calls Try.prog 19 #[.agg #[.slice ac rc.length cc, lv], cv] w R := by
  have HR := Lib.hid hR
  have Hv := Lib.hid hv
  have Hrc := Lib.hid hrc
  have Ho := Lib.hid hcols
  obtain ⟨av, av2, rfl, -, -, -, -⟩ := hv.form
  obtain ⟨ak, ck, rfl, -, -, -, -⟩ := hcols.form
  have hrl63 := hrc.len
  clear hR hv hrc hcols
  obtain ⟨wa, ewa⟩ : ∃ x, x = w.alloc (.cells #[.slice ac rc.length cc, .slice av l.length av2] 34) := ⟨_, rfl⟩
  obtain ⟨wb, ewb⟩ : ∃ x, x = wa.alloc (.cells #[.slice none 0 0] 44) := ⟨_, rfl⟩
  obtain ⟨w2, ew2⟩ : ∃ x, x = wb.alloc (.cells #[.int .i64 0] 25) := ⟨_, rfl⟩
  have sa : wa.heap.size = w.heap.size + 1 := by rw [ewa]; simp
  have sb : wb.heap.size = w.heap.size + 1 + 1 := by rw [ewb]; simp [sa]
  have hBa : Below w.heap.size w wa := by rw [ewa]; exact alloc_below _ _
  have hBb : Below wa.heap.size wa wb := by rw [ewb]; exact alloc_below _ _
  have hBc : Below wb.heap.size wb w2 := by rw [ew2]; exact alloc_below _ _
  have hb1 : Blk wa w.heap.size [.slice ac rc.length cc, .slice av l.length av2] 34 := by rw [ewa]; exact Blk.new w [.slice ac rc.length cc, .slice av l.length av2] _ rfl
  have hb2 : Blk wb (w.heap.size + 1) [.slice none 0 0] 44 := by rw [ewb]; exact Blk.new wa [.slice none 0 0] _ sa.symm
  have hb3 : Blk w2 (w.heap.size + 1 + 1) [.int .i64 0] 25 := by rw [ew2]; exact Blk.new wb [.int .i64 0] _ sb.symm
  have hb1 := (hb1.below hBb hb1.lt).below hBc (by omega)
  have hb2 := hb2.below hBc hb2.lt
  have hB := hBa.trans ((hBb.mono hBa.size).trans (hBc.mono (by omega)))
  refine (callsIn_wide (n := 3)).1 (callsIn_of_wp_marks Try.func19 rfl trivial ?_ rfl)
  refine wpIn_wide.2 ?_
  simp only [Try.ntmps19, List.size_toArray, List.length_cons, Nat.reduceAdd, Nat.reduceSub, Array.replicate_succ, Array.replicate_zero, List.push_toArray, List.append_toArray, List.nil_append, List.cons_append, List.length_nil]
  go_upto_region 1 with fail
  rw [← ewa, ← ewb, ← ew2]
  clear ewa ewb ew2 hBa hBb hBc sa sb
  have HB := Lib.hid hB
  have Hb1 := Lib.hid hb1
  have Hb2 := Lib.hid hb2
  have Hb3 := Lib.hid hb3
  have hz2 := hB.size
  have hl3 := hb3.lt
  obtain ⟨c0, c1⟩ := hb1.cells.c2
  simp only [Nat.zero_add] at c1
  clear hb1 hb2 hb3 hB
  go_wp2_with fail
  refine fplaces_any lo hi lc hc l2 h2 rc _ _ l _ cols _ w2 (Sl.below Hrc.out Strs.loc HB.out hhc) (by omega) (Sl.below Hv.out rowE_loc HB.out hhi) (by omega) (Sl.below Ho.out Strs.loc HB.out hh2) (by omega) hlen _ (fun hno w3 hB3 => ?_) (fun hyes w3 v3 hB3 ho3 => ?_)
  · have hz3 := hB3.size
    have hB0 := HB.out.trans (hB3.mono hz2)
    have h4 := Hb2.out.below hB3 (by omega)
    have h5 := Hb3.out.below hB3 hl3
    have he : grpErr rc l cols = 2 := by unfold grpErr; rw [hno]; rfl
    have d0 := h4.cells.c1
    have d1 := h5.cells.c1
    have f0 := h4.free 0
    have f1 := h5.free 0
    have HR2 := HR.out
    rw [he] at HR2
    have HT := Lib.hid (fun (fn : Func) (tmps : Array Value) hfn ht4 ht5 => grTail (n := 3) (fn := fn) (tmps := tmps) (R := R) (lo := w3.heap.size) (v := .slice none 0 0) (cols := rc) (rs := []) (err := 2) (Ds := []) hfn ht4 ht5 h4 h5 (by omega) (by omega) (by omega) hB0 (RLs.nil _ _ _) (by omega) (by omega) (by omega) List.nodup_nil (fun D hD => by cases hD) (fun w' hB' hL' => HR2 w' _ hB' (by rw [okL_no (by omega)]; exact hL')))
    clear h4 h5 HR2 he hB3 hB0
    go_wp2_with fail
    exact HT.out _ _ rfl rfl rfl
  have hm : mayRel rc l = true := by
    unfold rightB at hyes
    simp only [Bool.and_eq_true] at hyes
    exact hyes.1.1
  have hwi : withinB cols rc = true := by
    unfold rightB at hyes
    simp only [Bool.and_eq_true] at hyes
    exact hyes.1.2
  have he : grpErr rc l cols = 0 := by unfold grpErr; rw [hyes]; rfl
  rw [he] at HR
  have Hm := Lib.hid hm
  have hml := may_many hm
  have HokA : Hid (∀ x ∈ l, AtOk x.length (placesL cols rc)) := Lib.hid (fun x hx => by rw [may_len hm x hx]; exact places_ok hwi)
  have hcl : cols.length ≤ 32 := once_len (by unfold rightB at hyes; simp only [Bool.and_eq_true] at hyes; exact hyes.2)
  have hpl : (placesL cols rc).length = cols.length := by unfold placesL; simp
  generalize hat : placesL cols rc = at' at *
  have Hat := Lib.hid hat
  have hal : at'.length ≤ 1000000000000 := by omega
  clear hat hpl hcl
  obtain ⟨p3, q3, rfl⟩ := Own.slice ho3
  have hz3 := hB3.size
  have HB3 := Lib.hid (HB.out.trans (hB3.mono hz2))
  have Hi3 := Lib.hid (OwnI.sl ho3)
  have Hb13 := Lib.hid (Hb1.out.below hB3 (by omega))
  have Hb23 := Lib.hid (Hb2.out.below hB3 (by omega))
  have Hb33 := Lib.hid (Hb3.out.below hB3 hl3)
  clear hyes hm hwi he ho3 hB3 Hb1 Hb2 Hb3 c0 c1 hb1 hb2 Ho
  go_upto_region 5 with fail
  have hBa := alloc_below w3 (.cells #[.slice none 0 0] 44)
  have hba := Blk.new w3 [.slice none 0 0] 44 rfl
  generalize w3.alloc (.cells #[.slice none 0 0] 44) = w4 at *
  have hz4 := hBa.size
  have hl4 := hba.lt
  have HB4 := Lib.hid (HB3.out.trans (hBa.mono (by omega)))
  have Hb14 := Lib.hid (Hb13.out.below hBa (by omega))
  have Hb24 := Lib.hid (Hb23.out.below hBa (by omega))
  have Hb34 := Lib.hid (Hb33.out.below hBa (by omega))
  have Hi4 := Lib.hid (Sl.below Hi3.out Ints.loc hBa (Nat.le_refl _))
  have Hbo4 := Lib.hid hba
  obtain ⟨c0, c1⟩ := Hb14.out.cells.c2
  simp only [Nat.zero_add] at c1
  clear hBa hba Hb13 Hb23 Hb33 Hi3
  go_wp2_with fail
  refine fgroups_any ac av p3 rc.length cc l.length av2 at'.length q3 w4 _ ?_
  have hBp := alloc_below w4 (.cells #[.slice ac rc.length cc, .slice av l.length av2] 34)
  have hkp := Blk.new w4 [.slice ac rc.length cc, .slice av l.length av2] 34 rfl
  have hsp : (w4.alloc (.cells #[.slice ac rc.length cc, .slice av l.length av2] 34)).heap.size = w4.heap.size + 1 := by simp
  have hBq := alloc_below (w4.alloc (.cells #[.slice ac rc.length cc, .slice av l.length av2] 34)) (.cells #[.slice p3 at'.length q3] 84)
  have hkq := Blk.new (w4.alloc (.cells #[.slice ac rc.length cc, .slice av l.length av2] 34)) [.slice p3 at'.length q3] 84 hsp.symm
  have hkp4 := hkp.below hBq hkp.lt
  have hBw := hBp.trans (hBq.mono hBp.size)
  clear hkp hBp hBq hsp
  generalize (w4.alloc (.cells #[.slice ac rc.length cc, .slice av l.length av2] 34)).alloc (.cells #[.slice p3 at'.length q3] 84) = W4 at *
  have hzw := hBw.size
  have hkql := hkq.lt
  have hkpl := hkp4.lt
  have HBW := Lib.hid (HB4.out.trans (hBw.mono (by omega)))
  have Hkp := Lib.hid hkp4
  have Hkq := Lib.hid hkq
  have Hb1W := Lib.hid (Hb14.out.below hBw (by omega))
  have Hb2W := Lib.hid (Hb24.out.below hBw (by omega))
  have Hb3W := Lib.hid (Hb34.out.below hBw (by omega))
  have HiW := Lib.hid (Sl.below Hi4.out Ints.loc hBw hz4)
  have HboW := Lib.hid (Hbo4.out.below hBw hl4)
  clear hBw hkp4 hkq c0 c1 Hb14 Hb24 Hb34 Hi4 Hbo4
  go_wp2_with fail
  refine wp_rangeFuncR 2 (gf := 99) rfl (enters_of Try.func99 (by kernel_rfl) rfl) (fun fn RL hRL => ?_)
  have HRL := Lib.hid hRL
  clear hRL
  have hB5 : Below W4.heap.size W4 ((W4.alloc (.deferred (some []))).alloc (.loop (RL .ready none))) := ((Below.refl _ _).alloc (Nat.le_refl _) _).alloc (by simp) _
  have hlD : ((W4.alloc (.deferred (some []))).alloc (.loop (RL .ready none))).heap[W4.heap.size]? = some (.deferred (some [])) := (Below.heap_alloc _ _ _ (by simp)).trans (World.alloc_heap_new W4 _)
  have hlL : ((W4.alloc (.deferred (some []))).alloc (.loop (RL .ready none))).heap[W4.heap.size + 1]? = some (.loop (RL .ready none)) := by
    have := World.alloc_heap_new (W4.alloc (.deferred (some []))) (.loop (RL .ready none))
    rwa [World.size_alloc] at this
  generalize (W4.alloc (.deferred (some []))).alloc (.loop (RL .ready none)) = W5 at *
  have HBw5 := Lib.hid (HBW.out.trans (hB5.mono (by omega)))
  have hlt5 := heap_lt hlL
  have HlD := Lib.hid hlD
  have HlL := Lib.hid hlL
  have Hkp5 := Lib.hid (Hkp.out.below hB5 (by omega))
  have Hkq5 := Lib.hid (Hkq.out.below hB5 (by omega))
  have Hb15 := Lib.hid (Hb1W.out.below hB5 (by omega))
  have Hb25 := Lib.hid (Hb2W.out.below hB5 (by omega))
  have Hb35 := Lib.hid (Hb3W.out.below hB5 (by omega))
  have Hi5 := Lib.hid (Sl.below HiW.out Ints.loc hB5 (by omega))
  have Hbo5 := Lib.hid (HboW.out.below hB5 (by omega))
  have Hv5 := Lib.hid (Sl.below Hv.out rowE_loc HBw5.out hhi)
  have Hrc5 := Lib.hid (Sl.below Hrc.out Strs.loc HBw5.out hhc)
  clear hB5 hlD hlL Hkp Hkq Hb1W Hb2W Hb3W HiW HboW
  have hf : grpK rc cols = fun x => pickL x at' := by funext x; unfold grpK; rw [Hat.out]
  obtain ⟨T, hT⟩ : ∃ T, T = (keysL (fun x => pickL x at') l).map (withK (fun x => pickL x at') l) := ⟨_, rfl⟩
  have HTg : Hid (grpL rc l cols = T) := Lib.hid (by unfold grpL; rw [hf, hT])
  have HT := Lib.hid hT
  clear hf hT
  have HJF : Hid (∀ k g W, GrJ (W4.heap.size + 1) W4.heap.size w3.heap.size W5 (.loop (RL .ready none)) rc T k g W → Agree 0 w3.heap.size W5 W ∧ Agree w4.heap.size W4.heap.size W5 W ∧ W5.heap.size ≤ W.heap.size) := Lib.hid (fun k g W h => ⟨h.on.agree (by omega) (fun z hz => by rcases hz with rfl | rfl <;> omega), h.on.agree (by omega) (fun z hz => by rcases hz with rfl | rfl <;> omega), h.on.size⟩)
  refine (groups1_any lo hi w2.heap.size w3.heap.size w4.heap.size (w4.heap.size + 1) (W4.heap.size + 1) 1 l at' (.slice ac rc.length cc) (.slice av l.length av2) (.slice p3 at'.length q3) (GrJ (W4.heap.size + 1) W4.heap.size w3.heap.size W5 (.loop (RL .ready none)) rc T) (fun _ => False) W5 Hv5.out (by omega) Hkp5.out HokA.out (by omega) hal (by omega) (by omega) Hi5.out Hkq5.out ?hJF ?hJB ?hJ0 ?hY).mono ?hend
  case hJF =>
    intro k g W h
    obtain ⟨h1, h2, h3⟩ := HJF.out k g W h
    exact ⟨fun b q1 q2 => h1 b (Nat.zero_le _) (by omega), Hkq5.out.agree h2 (by omega) (by omega), Sl.agree Hi5.out Ints.loc (fun b q1 q2 => h1 b (Nat.zero_le _) q2), h3⟩
  case hJB =>
    intro k g W W' h hB
    obtain ⟨v, q1, q2, q3⟩ := h.out
    exact ⟨(hB.block _ (heap_lt h.lp)).trans h.lp, (hB.block _ (heap_lt h.df)).trans h.df, h.on.trans (Below.only hB), h.ge, v, q1.below hB q1.lt, q2.kept hB, q3⟩
  case hJ0 =>
    intro g W hB hg
    exact ⟨(hB.block _ hlt5).trans HlL.out, (hB.block _ (by omega)).trans HlD.out, Below.only hB, hg, .slice none 0 0, Hbo5.out.below hB (by omega), by simpa using RLs.nil _ _ _, by simp [Value.ownBlock]⟩
  case hY =>
    intro k g Wb W kp kc gp gc grp hJ hBb hgl hk hkey hgrp hperm
    have hlp := (hBb.block _ (heap_lt hJ.lp)).trans hJ.lp
    have hdf := (hBb.block _ (heap_lt hJ.df)).trans hJ.df
    have hon : Only (fun z => z = w3.heap.size ∨ z = W4.heap.size + 1) W5 W := hJ.on.trans (Below.only hBb)
    have hge := hJ.ge
    obtain ⟨vk, hbk0, hok0, hne⟩ := hJ.out
    have hbk := hbk0.below hBb hbk0.lt
    have hok := hok0.kept hBb
    have hkT : k < T.length := by rw [HT.out, List.length_map]; exact hk
    have hTk : T[k] = withK (fun x => pickL x at') l (keysL (fun x => pickL x at') l)[k] := by
      simp only [HT.out, List.getElem_map]
    rw [← hTk] at hperm
    have Htk : Hid (T.take (k + 1) = T.take k ++ [T[k]]) := Lib.hid (List.take_succ_eq_append_getElem hkT)
    have hTl : T.length ≤ 100000 := by
      rw [HT.out, List.length_map]
      have : (keysL (fun x => pickL x at') l).length ≤ (l.map (fun x => pickL x at')).length := canon_len_le _
      rw [List.length_map] at this
      omega
    have hTk2 : T[k] = l.filter fun x => cmpR (pickL x at') (keysL (fun x => pickL x at') l)[k] == 0 := hTk
    have Hcan : Hid (relCanon grp = T[k]) := Lib.hid (canon_is (by rw [hTk2]; exact List.Pairwise.filter _ (may_up' Hm.out)) (fun z => hperm.mem_iff))
    have hgm : ∀ x ∈ grp, x ∈ l := fun x hx => by
      have := hperm.mem_iff.1 hx
      rw [hTk2] at this
      exact (List.mem_filter.1 this).1
    have hgl2 : grp.length ≤ 100000 := by
      rw [hperm.length_eq, hTk2]
      have := List.length_filter_le (fun x => cmpR (pickL x at') (keysL (fun x => pickL x at') l)[k] == 0) l
      omega
    have Hof : Hid (ofErr rc grp = 0) := Lib.hid (by
      unfold ofErr fitB
      rw [may_once Hm.out, if_pos, if_neg]
      · rw [Hcan.out, ← hperm.length_eq]; omega
      · simp only [Bool.true_and, Bool.not_eq_true', List.any_eq_false]
        intro x hx
        simp [may_len Hm.out x (hgm x hx)])
    have Hgx : Hid (∀ x ∈ grp, x.length ≤ 4000000000000) := Lib.hid (fun x hx => by rw [may_len Hm.out x (hgm x hx)]; omega)
    clear hTk hTk2 hperm hgm hkey hJ hbk0 hok0
    have hLl := heap_lt hlp
    have hWb := hBb.size
    have hW5 := hon.size
    have Hlp := Lib.hid hlp
    generalize (keysL (fun x => pickL x at') l)[k] = key at *
    clear hk
    generalize T[k] = tk at *
    generalize hL : W4.heap.size + 1 = L at *
    have hL4 : W4.heap.size < L := by omega
    refine yieldAt_recR HRL.out Hlp.out rfl ?_
    gi_wp2_with fail
    refine ⟨Hlp.out, ?_⟩
    have ho3 : Only (· = L) W (W.putObj L (.loop (RL .busy none))) := Only.putObj (A := (· = L)) W (b := L) rfl _
    have hl3 : (W.putObj L (.loop (RL .busy none))).heap[L]? = some (.loop (RL .busy none)) := World.putObj_heap_same hLl
    generalize W.putObj L (.loop (RL .busy none)) = W3 at *
    have hs3 := ho3.size
    have hon3 : Only (fun z => z = w3.heap.size ∨ z = L) W5 W3 := hon.trans (ho3.mono (fun z _ hz => .inr hz))
    have hbk3 := ho3.blk hbk (show ¬ w3.heap.size = L by omega)
    have hok3 := hok.keptOnly ho3 (fun b e => by have : b = L := e; omega)
    have hdf3 := (ho3.block W4.heap.size (heap_lt hdf) (show ¬ W4.heap.size = L by omega)).trans hdf
    have hb13 := hon3.blk Hb15.out (show ¬ (w.heap.size = w3.heap.size ∨ w.heap.size = L) by omega)
    have hrc3 := Sl.agree Hrc5.out Strs.loc (hon3.agree (hi := hc) (lo := lc) (by omega) (fun z hz => by rcases hz with rfl | rfl <;> omega))
    have hgrp3 : Rws 0 Wb.heap.size W3 (.slice gp grp.length gc) grp := Rws.turn hgrp Hlp.out rfl ho3
    obtain ⟨e0, e1⟩ := hb13.cells.c2
    simp only [Nat.zero_add] at e1
    have Hon3 := Lib.hid hon3
    have Hbk3 := Lib.hid hbk3
    have Hok3 := Lib.hid hok3
    have Hdf3 := Lib.hid hdf3
    have Hl3 := Lib.hid hl3
    have Hrc3 := Lib.hid hrc3
    have Hgrp3 := Lib.hid hgrp3
    have Hho3 := Lib.hid ho3
    clear hon3 hbk3 hok3 hdf3 hl3 hrc3 hgrp3 ho3 hbk hok hdf hon hgrp hlp hb13
    gi_wp2_with fail
    refine ⟨by first | trivial | simp, callsIn_wide.2 (OfK_any 0 Wb.heap.size lc hc rc grp _ _ W3 Hrc3.out Hgrp3.out (by omega) (by omega) (by omega) Hgx.out _ (fun wf cvf lvf hsf hBf hTf hRf => ?_))⟩
    rw [Hof.out, okL_ok rfl] at hTf hRf
    rw [Hof.out]
    rw [Hcan.out] at hRf
    obtain ⟨pf, qf, rfl⟩ := Own.slice hTf
    obtain ⟨pg, qg, eg⟩ := Own.slice hRf.own
    rw [hRf.len] at eg
    subst eg
    have hzf := hBf.size
    have hbkf := Hbk3.out.below hBf Hbk3.out.lt
    have Hbkf := Lib.hid hbkf
    have HBf := Lib.hid hBf
    have HTf := Lib.hid hTf
    have HRf := Lib.hid hRf
    have cb := hbkf.cells.c1
    have hbol := hbkf.lt
    clear hbkf hBf hTf hRf
    obtain ⟨pk, ck, rfl⟩ := RLs.slice Hok3.out
    have hB1 := HBf.out.trans ((alloc_below wf (.cells #[.slice pf rc.length qf, .slice pg tk.length qg] 34)).mono hzf)
    have hs1 : (wf.alloc (.cells #[.slice pf rc.length qf, .slice pg tk.length qg] 34)).heap.size = wf.heap.size + 1 := by simp
    have hTl2 : (T.take k).length ≤ 1000000000 := by rw [List.length_take]; omega
    have HTl2 := Lib.hid hTl2
    clear hTl2
    generalize hnk : (T.take k).length = nk at *
    have Hnk := Lib.hid hnk
    clear hnk
    obtain ⟨vE, wE, hrE, hsnE, hapE⟩ := RLs.snoc Hok3.out (by have := Hon3.out.size; omega) hB1 ⟨⟨pf, rc.length, qf⟩, ⟨pg, tk.length, qg⟩⟩ (Own.kept HTf.out (alloc_below wf _)) (HRf.out.kept (alloc_below wf _)) (by rw [Hnk.out]; exact HTl2.out) hs1.symm
    have Hst := Lib.hid (grJ_step (RL := RL) Hon3.out (by omega) (by omega) (by omega) (by omega) (by omega) (by omega) Hl3.out Hdf3.out Hbk3.out Hok3.out hne hge (by omega) hB1 Htk.out hsnE hapE)
    have hO1 : Only (fun z => Value.ownBlock (.slice pk nk ck) = some z) _ wE := ⟨hapE.grown.os, hapE.grown.tape, hapE.grown.output, hapE.grown.size, fun k hk hA => hapE.grown.block k hk (fun e => hA e.symm)⟩
    have HbE := Lib.hid (hO1.blk (Hbk3.out.below hB1 Hbk3.out.lt) (fun e => by have := (RLs.lt Hok3.out _ e).1; omega))
    obtain ⟨pE, qE, rfl⟩ := RLs.slice hsnE
    clear hsnE hapE hO1 hB1
    generalize hnE : (T.take k ++ [tk]).length = nE at *
    clear hnE
    gi_wp2_with (gi_at_builtin; refine AtApp.of ?_)
    refine AtApp.goIn hrE rfl rfl rfl rfl ?_
    have ce := HbE.out.cells.c1
    have fe := HbE.out.free 0
    gi_wp2_with fail
    exact roundPost_normalR HRL.out Hst.out.1 ⟨rfl, Hst.out.2.1, Hst.out.2.2.trans (Hho3.out.block g (by omega) (show ¬ g = L by omega))⟩
  case hend =>
    rintro e W6 ⟨⟨v, rfl⟩, ⟨g, hJ⟩ | hZ⟩
    · refine ⟨⟨v, rfl⟩, .ready, none, by simp, hJ.lp, ?_⟩
      have hlt := heap_lt hJ.lp
      have h7 : Only (· = W4.heap.size + 1) W6 (W6.putObj (W4.heap.size + 1) (.loop (RL .exhausted none))) := Only.putObj (A := (· = W4.heap.size + 1)) _ (b := W4.heap.size + 1) rfl _
      show Exit.inBlock 0 _ Exit.normal _ (W6.putObj (W4.heap.size + 1) (.loop (RL .exhausted none)))
      generalize W6.putObj (W4.heap.size + 1) (.loop (RL .exhausted none)) = W7 at *
      obtain ⟨v7, hb7, ho7, -⟩ := hJ.out
      rw [List.take_of_length_le (by rw [HT.out, List.length_map]; exact Nat.le_refl _)] at ho7
      have hL7 := ho7.keptOnly h7 (fun b e => by have : b = W4.heap.size + 1 := e; omega)
      have hb77 := h7.blk hb7 (show ¬ w3.heap.size = W4.heap.size + 1 by omega)
      have hon7 : Only (fun z => z = w3.heap.size ∨ z = W4.heap.size + 1) W5 W7 := hJ.on.trans (h7.mono (fun z _ hz => .inr hz))
      have hB7 : Below w.heap.size w W7 := HBw5.out.trans (hon7.below HBw5.out.size (fun z hz => by rcases hz with rfl | rfl <;> omega))
      have h4 := hon7.blk Hb25.out (show ¬ (w.heap.size + 1 = w3.heap.size ∨ w.heap.size + 1 = W4.heap.size + 1) by omega)
      have h5 := hon7.blk Hb35.out (show ¬ (w.heap.size + 1 + 1 = w3.heap.size ∨ w.heap.size + 1 + 1 = W4.heap.size + 1) by omega)
      have hD7 := (hon7.block W4.heap.size (by omega) (show ¬ (W4.heap.size = w3.heap.size ∨ W4.heap.size = W4.heap.size + 1) by omega)).trans HlD.out
      obtain ⟨p7, q7, rfl⟩ := RLs.slice hL7
      have HR2 := HR.out
      rw [HTg.out] at HR2
      have hzz := HBw5.out.size
      have HTt := Lib.hid (fun (fn : Func) (tmps : Array Value) hfn ht4 ht5 => grTail (n := 3) (fn := fn) (tmps := tmps) (R := R) (Ds := [W4.heap.size]) (err := 0) hfn ht4 ht5 h4 h5 (by omega) (by omega) (by omega) hB7 hL7 (by omega) (by omega) (by omega) (by simp) (fun D hD => by rw [List.mem_singleton.1 hD]; exact ⟨by omega, by omega, hD7⟩) (fun w' hB' hL' => HR2 w' _ hB' (by rw [okL_ok rfl]; exact hL')))
      have c0 := hb77.cells.c1
      have d0 := h4.cells.c1
      have d1 := h5.cells.c1
      have f0 := h4.free 0
      have f1 := h5.free 0
      have hsz7 : w3.heap.size < W7.heap.size := hb77.lt
      clear hJ h7 hL7 hb77 hon7 hB7 h4 h5 hD7 HR2 hb7 ho7 hlt
      go_wp2_with fail
      exact HTt.out _ _ rfl rfl rfl
    · exact hZ.elim
end Go.Proofs.Ytpncblagjkbemaa
end

/- The document's place and once, of the folds. -/
section
set_option linter.unusedVariables false
set_option linter.unusedSimpArgs false
namespace Go.Proofs.Ytpncblagjkbemaa
open Go.RowKit
set_option linter.unusedVariables false
set_option linter.unusedSimpArgs false
set_option maxRecDepth 100000 in
set_option maxHeartbeats 2000000 in
theorem place16_any (lo hi : Nat) (l : List S) (c : S) (v : Value) (w : World) (hv : Strs lo hi w v l) (R : Ending → World → Prop) (hR : R (.returned (.int .i64 (placeI l c))) w) :
    Calls Try.prog 122 #[v, .string ⟨c.toArray⟩] w R := by
  have HR := Lib.hid hR
  obtain ⟨ao, cap, rfl, -, hcm, -, hc⟩ := hv.form
  have Hc := Lib.hid hc
  have hlen := hv.len
  clear hR hv hc
  go_enter Try.func122, Try.ntmps122
  go_wp2_with fail
  go_loop [5] (fun t5 => ∃ k : Nat, k ≤ l.length ∧ t5 = .int .i64 k ∧ ∀ i, i < k → l.getD i [] ≠ c) (fun t5 => l.length - (intOf t5).toNat)
  case atStart => exact ⟨0, Nat.zero_le _, rfl, fun i h => absurd h (Nat.not_lt_zero _)⟩
  case round =>
    obtain ⟨k, hk, rfl, hno⟩ := hrel
    have Hno := Lib.hid hno
    clear hno
    have kk0 : (0 : Int) ≤ (k : Int) := by omega
    by_cases hlt : k < l.length
    · obtain ⟨b, off, rfl, hb1, hb2, hcc⟩ := Hc.out k hlt
      obtain ⟨cs, _, hcs, rfl⟩ := hcc k hlt
      have g0 := hcs.c1
      rw [Nat.mul_one] at g0
      have kkl : (k : Int) < (l.length : Int) := by omega
      have Hx : Hid (l.getD k [] = l[k]) := Lib.hid (getDS l _ k hlt)
      have Hhit : Hid (l[k] = c → placeI l c = k) := Lib.hid (fun h => placeI_hit hlt h Hno.out)
      clear hcs hcc
      generalize l[k] = y at *
      by_cases he : y = c
      · have hr := HR.out
        rw [Hhit.out he] at hr
        subst he
        go_wp2_with fail
        first | exact hr | exact fin hr rfl
      · have he2 : (y == c) = false := by simpa using he
        have he3 : (c == y) = false := by simp; exact fun h => he h.symm
        have Hne := Lib.hid he
        clear he
        go_wp2_with fail
        go_round
        case rel => exact ⟨k + 1, by omega, by go_num, fun i hi => by
          by_cases e : i = k
          · subst e; rw [Hx.out]; exact Hne.out
          · exact Hno.out i (by omega)⟩
        case measure => simp [intOf]; omega
    · obtain rfl : k = l.length := by omega
      have hr := HR.out
      rw [placeI_no Hno.out] at hr
      go_wp2_with fail
      first | exact hr | exact fin hr rfl
def onceNAt (l : List S) (i : Nat) : Bool := placeI l (l.getD i []) == i
def onceN (l : List S) : Bool := (List.range l.length).all (onceNAt l)
theorem onceN_yes {l : List S} (h : ∀ i, i < l.length → onceNAt l i = true) : onceN l = true := by
  unfold onceN
  rw [List.all_eq_true]
  exact fun i hi => h i (List.mem_range.1 hi)
theorem onceN_no {l : List S} {i : Nat} (hi : i < l.length) (h : onceNAt l i = false) : onceN l = false := by
  cases hq : onceN l
  · rfl
  · unfold onceN at hq
    rw [List.all_eq_true] at hq
    rw [hq i (List.mem_range.2 hi)] at h
    cases h
set_option maxRecDepth 100000 in
set_option maxHeartbeats 2000000 in
theorem once16_any (lo hi : Nat) (l : List S) (v : Value) (w : World) (hv : Strs lo hi w v l) (R : Ending → World → Prop) (hR : R (.returned (.bool (onceN l))) w) :
    Calls Try.prog 121 #[v] w R := by
  have HR := Lib.hid hR
  have Hv := Lib.hid hv
  obtain ⟨ao, cap, rfl, -, hcm, -, hc⟩ := hv.form
  have Hc := Lib.hid hc
  have hlen := hv.len
  clear hR hv hc
  go_enter Try.func121, Try.ntmps121
  go_wp2_with fail
  go_loop [3] (fun t3 => ∃ k : Nat, k ≤ l.length ∧ t3 = .int .i64 k ∧ ∀ i, i < k → onceNAt l i = true) (fun t3 => l.length - (intOf t3).toNat)
  case atStart => exact ⟨0, Nat.zero_le _, rfl, fun i h => absurd h (Nat.not_lt_zero _)⟩
  case round =>
    obtain ⟨k, hk, rfl, hno⟩ := hrel
    have Hno := Lib.hid hno
    clear hno
    have kk0 : (0 : Int) ≤ (k : Int) := by omega
    by_cases hlt : k < l.length
    · obtain ⟨b, off, rfl, hb1, hb2, hcc⟩ := Hc.out k hlt
      obtain ⟨cs, _, hcs, rfl⟩ := hcc k hlt
      have g0 := hcs.c1
      rw [Nat.mul_one] at g0
      have kkl : (k : Int) < (l.length : Int) := by omega
      have Hx : Hid (l.getD k [] = l[k]) := Lib.hid (getDS l _ k hlt)
      clear hcs hcc
      generalize l[k] = y at *
      go_wp2_with fail
      refine place16_any lo hi l y _ w Hv.out _ ?_
      by_cases hp : placeI l y = k
      · have c1 : (placeI l y != (k : Int)) = false := by simp [hp]
        have Hat : Hid (onceNAt l k = true) := Lib.hid (by unfold onceNAt; rw [Hx.out, hp]; simp)
        clear hp
        go_wp2_with fail
        go_round
        case rel => exact ⟨k + 1, by omega, by go_num, fun i hi => by
          by_cases e : i = k
          · subst e; exact Hat.out
          · exact Hno.out i (by omega)⟩
        case measure => simp [intOf]; omega
      · have c1 : (placeI l y != (k : Int)) = true := by simp [hp]
        have hr := HR.out
        rw [onceN_no hlt (by unfold onceNAt; rw [Hx.out]; simp [hp])] at hr
        clear hp
        go_wp2_with fail
        first | exact hr | exact fin hr rfl
    · obtain rfl : k = l.length := by omega
      have hr := HR.out
      rw [onceN_yes Hno.out] at hr
      go_wp2_with fail
      first | exact hr | exact fin hr rfl
theorem onceN_nodup {l : List S} : onceN l = true ↔ l.Nodup := by
  rw [List.nodup_iff_pairwise_ne]
  constructor
  · intro h
    unfold onceN at h
    rw [List.all_eq_true] at h
    rw [List.pairwise_iff_getElem]
    intro i j hi hj hij e
    have h1 := h i (List.mem_range.2 hi)
    have h2 := h j (List.mem_range.2 hj)
    unfold onceNAt at h1 h2
    rw [getDS l _ i hi, beq_iff_eq] at h1
    rw [getDS l _ j hj, beq_iff_eq, ← e, h1] at h2
    omega
  · intro h
    rw [List.pairwise_iff_getElem] at h
    refine onceN_yes (fun i hi => ?_)
    unfold onceNAt
    rw [getDS l _ i hi, beq_iff_eq]
    refine placeI_hit hi rfl (fun j hj e => ?_)
    rw [getDS l _ j (by omega)] at e
    exact h j i (by omega) hi hj e
/-- Within a relation that may be, columns that are each there once are few enough. -/
theorem onceN_right {rc cols : List S} {l : List (List V)} : (mayRel rc l && onceN cols && withinB cols rc) = rightB rc l cols := by
  unfold rightB
  cases hm : mayRel rc l
  · simp
  · cases hw : withinB cols rc
    · simp
    · simp only [Bool.true_and, Bool.and_true]
      rw [Bool.eq_iff_iff, onceN_nodup]
      constructor
      · intro hn
        have hat := within_at hw
        refine once_of hn (Nat.le_trans (nodup_len_le hn (fun c hc => ?_)) (once_len (may_once hm)))
        obtain ⟨k, hk, rfl⟩ := List.getElem_of_mem hc
        exact place_mem_iff.1 (hat k hk)
      · exact once_nodup
end Go.Proofs.Ytpncblagjkbemaa
end

/- The document's right, of the folds. (Printed by fldj.py.) -/
section
set_option linter.unusedVariables false
set_option linter.unusedSimpArgs false
namespace Go.Proofs.Ytpncblagjkbemaa
open Go.RowKit
set_option linter.unusedVariables false
set_option linter.unusedSimpArgs false
attribute [local go_sem ↓] Go.wp_at_zero Go.wp_at_succ
set_option maxRecDepth 100000 in
set_option maxHeartbeats 4000000 in
theorem right16_any (lo hi lc hc l2 h2 : Nat) (rc : List S) (ac : Option Addr) (cc : Nat) (l : List (List V)) (lv : Value) (cols : List S) (cv : Value) (w : World) (hrc : Strs lc hc w (.slice ac rc.length cc) rc) (hhc : hc ≤ w.heap.size) (hv : Rws lo hi w lv l) (hhi : hi ≤ w.heap.size) (hcols : Strs l2 h2 w cv cols) (hh2 : h2 ≤ w.heap.size) (hrs : ∀ x ∈ l, ∀ a ∈ x, a.s.length ≤ 9223372036854775807) (R : Ending → World → Prop)
    (hR : ∀ w', Below w.heap.size w w' → R (.returned (.bool (rightB rc l cols))) w') :
    Calls Try.prog 93 #[.agg #[.slice ac rc.length cc, lv], cv] w R := by
  have HR := Lib.hid hR
  have Hv := Lib.hid hv
  have Hrc := Lib.hid hrc
  have Ho := Lib.hid hcols
  have Hrs := Lib.hid hrs
  obtain ⟨av, av2, rfl, -, -, -, -⟩ := hv.form
  obtain ⟨ak, ck, rfl, -, -, -, -⟩ := hcols.form
  have hol := hcols.len
  have hrl := hrc.len
  clear hR hv hrc hcols hrs
  have hB1 := alloc_below w (.cells #[.slice ac rc.length cc, .slice av l.length av2] 53)
  have hb1 := Blk.new w [.slice ac rc.length cc, .slice av l.length av2] 53 rfl
  go_enter Try.func93, Try.ntmps93
  go_upto_region 1 with fail
  generalize w.alloc (.cells #[.slice ac rc.length cc, .slice av l.length av2] 53) = w1 at *
  have HB1 := Lib.hid hB1
  have Hb1 := Lib.hid hb1
  have hz1 := hB1.size
  have hl1 := hb1.lt
  obtain ⟨c0, c1⟩ := hb1.cells.c2
  simp only [Nat.zero_add] at c1
  clear hB1 hb1
  go_wp2_with fail
  refine refMay_any lo hi lc hc rc _ _ l _ w1 (Sl.below Hrc.out Strs.loc HB1.out hhc) (by omega) (Sl.below Hv.out rowE_loc HB1.out hhi) (by omega) Hrs.out _ (fun w2 hB2 => ?_)
  have HB2 := Lib.hid (HB1.out.trans (hB2.mono hz1))
  have Hb2 := Lib.hid (Hb1.out.below hB2 hl1)
  have hz2 := hB2.size
  clear hB2 c0 c1
  have Hq := Lib.hid (onceN_right (rc := rc) (cols := cols) (l := l))
  go_wp2_with fail
  refine once16_any l2 h2 cols _ w2 (Sl.below Ho.out Strs.loc HB2.out hh2) _ ?_
  cases hm : mayRel rc l
  · have hr := HR.out w2 HB2.out
    rw [← Hq.out, hm] at hr
    simp only [Bool.false_and] at hr
    go_wp2_with fail
    first | exact hr | exact fin hr rfl
  have Hm := Lib.hid hm
  clear hm
  cases hon : onceN cols
  · have hr := HR.out w2 HB2.out
    rw [← Hq.out, hon, Hm.out] at hr
    simp only [Bool.true_and, Bool.false_and] at hr
    go_wp2_with fail
    first | exact hr | exact fin hr rfl
  have Hon := Lib.hid hon
  clear hon
  go_wp2_with fail
  go_loopw [7] (fun t7 wr => ∃ (k : Nat), k ≤ cols.length ∧ t7 = .int .i64 k ∧ Hid (∀ i (hi : i < cols.length), i < k → 0 ≤ placeI rc cols[i]) ∧ Below w.heap.size w wr ∧ Blk wr w.heap.size [.slice ac rc.length cc, .slice av l.length av2] 53) (fun t7 _ => cols.length - (intOf t7).toNat)
  case atStart => exact ⟨0, Nat.zero_le _, rfl, Lib.hid (fun i _ h => absurd h (Nat.not_lt_zero _)), HB2.out, Hb2.out⟩
  case round =>
    obtain ⟨k, hk, rfl, Hpl, hB, hbk⟩ := hrel
    obtain ⟨wo, ewo⟩ : ∃ x, x = wr := ⟨_, rfl⟩
    subst ewo
    have HB := Lib.hid hB
    have Hbk := Lib.hid hbk
    have hz := hB.size
    have hlk := hbk.lt
    have kk0 : (0 : Int) ≤ (k : Int) := by omega
    clear hB hbk
    by_cases hlt : k < cols.length
    · have kkl : (k : Int) < (cols.length : Int) := by omega
      obtain ⟨b, o, rfl, hb, hat⟩ := Strs.at (Sl.below Ho.out Strs.loc HB.out hh2) (by omega) (by omega)
      have g0 := hat k hlt wo (Below.refl _ _)
      have Hneg : Hid (placeI rc cols[k] < 0 → rightB rc l cols = false) := Lib.hid (fun h => by unfold rightB; rw [within_no hlt h]; simp)
      have Hnn : Hid (¬ placeI rc cols[k] < 0 → ∀ i (hi : i < cols.length), i < k + 1 → 0 ≤ placeI rc cols[i]) := Lib.hid (fun h i hi h2 => by
        by_cases e : i = k
        · subst e; omega
        · exact Hpl.out i hi (by omega))
      have G0 := Lib.hid g0
      clear hat g0
      generalize cols[k] = c at *
      go_wp2_with fail
      refine wp_region_held_drew (S := fun w' => w' = wo.drew) (by kernel_rfl) rfl (fun hHeld => ?_)
      refine wpAnyH_take (i := 0) (v := .pointer (some ⟨w.heap.size, 0, none⟩)) rfl (by kernel_rfl) (by kernel_rfl) (by kernel_rfl) (fun _ _ _ h => h) (Or.inl ⟨by rfl, ?_⟩) hHeld ?_
      · intro w' hSw; subst hSw; go_simp <;> omega
      try simp only [Act.put, List.getElem_toArray, List.getElem_cons_succ, List.getElem_cons_zero, List.setIfInBounds_toArray, List.set_cons_zero, List.set_cons_succ]
      refine wpAnyH_take (i := 1) (v := .slice ac rc.length cc) rfl (by kernel_rfl) (by kernel_rfl) (by kernel_rfl) (fun _ _ _ h => h) (Or.inl ⟨by rfl, ?_⟩) hHeld ?_
      · intro w' hSw; subst hSw; have kx := Hbk.out.cells.c2.1; go_simp
      try simp only [Act.put, List.getElem_toArray, List.getElem_cons_succ, List.getElem_cons_zero, List.setIfInBounds_toArray, List.set_cons_zero, List.set_cons_succ]
      refine wpAnyH_take (i := 2) (v := .slice (some ⟨b, o, none⟩) cols.length ck) rfl (by kernel_rfl) (by kernel_rfl) (by kernel_rfl) (fun _ _ _ h => h) (Or.inl ⟨by rfl, ?_⟩) hHeld ?_
      · intro w' hSw; subst hSw; go_simp <;> omega
      try simp only [Act.put, List.getElem_toArray, List.getElem_cons_succ, List.getElem_cons_zero, List.setIfInBounds_toArray, List.set_cons_zero, List.set_cons_succ]
      refine wpAnyH_take (i := 3) (v := .int .i64 ((k : Int))) rfl (by kernel_rfl) (by kernel_rfl) (by kernel_rfl) (fun _ _ _ h => h) (Or.inl ⟨by rfl, ?_⟩) hHeld ?_
      · intro w' hSw; subst hSw; go_simp <;> omega
      try simp only [Act.put, List.getElem_toArray, List.getElem_cons_succ, List.getElem_cons_zero, List.setIfInBounds_toArray, List.set_cons_zero, List.set_cons_succ]
      refine wpAnyH_take (i := 4) (v := .pointer (some ⟨b, o + k, none⟩)) rfl (by kernel_rfl) (by kernel_rfl) (by kernel_rfl) (fun _ _ _ h => h) (Or.inl ⟨by rfl, ?_⟩) hHeld ?_
      · intro w' hSw; subst hSw; go_simp <;> omega
      try simp only [Act.put, List.getElem_toArray, List.getElem_cons_succ, List.getElem_cons_zero, List.setIfInBounds_toArray, List.set_cons_zero, List.set_cons_succ]
      refine wpAnyH_take (i := 5) (v := .string ⟨c.toArray⟩) rfl (by kernel_rfl) (by kernel_rfl) (by kernel_rfl) (fun _ _ _ h => h) (Or.inl ⟨by rfl, ?_⟩) hHeld ?_
      · intro w' hSw; subst hSw; have kx := G0.out; go_simp
      try simp only [Act.put, List.getElem_toArray, List.getElem_cons_succ, List.getElem_cons_zero, List.setIfInBounds_toArray, List.set_cons_zero, List.set_cons_succ]
      refine wpAnyH_ready (rs := [6]) (by kernel_rfl) (by simp) ?_
      refine allCall (f := 122) (args := #[.slice ac rc.length cc, .string ⟨c.toArray⟩]) rfl (by kernel_rfl) (by kernel_rfl) ?_ AllReadyH.nil
      refine place16_any lc hc rc c _ wo.drew (Sl.below Hrc.out Strs.loc HB.out.drew hhc) _ ?_
      refine ⟨_, rfl, rfl, ?_⟩
      try simp only [Act.put, List.getElem_toArray, List.getElem_cons_succ, List.getElem_cons_zero, List.setIfInBounds_toArray, List.set_cons_zero, List.set_cons_succ]
      refine wpAnyH_take (i := 7) (v := .int .i64 ((placeI rc c))) rfl (by kernel_rfl) (by kernel_rfl) (by kernel_rfl) (fun _ _ _ h => h) (Or.inl ⟨by rfl, ?_⟩) hHeld ?_
      · intro w' hSw; subst hSw; go_simp <;> omega
      try simp only [Act.put, List.getElem_toArray, List.getElem_cons_succ, List.getElem_cons_zero, List.setIfInBounds_toArray, List.set_cons_zero, List.set_cons_succ]
      refine wpAnyH_done (by kernel_rfl) ?_ _
      clear hHeld
      have HBd : Hid (Below w.heap.size w wo.drew) := Lib.hid HB.out.drew
      have Hbd : Hid (Blk wo.drew w.heap.size [.slice ac rc.length cc, .slice av l.length av2] 53) := Lib.hid Hbk.out.drew
      generalize wo.drew = wd at *
      by_cases hneg : placeI rc c < 0
      · have hr := HR.out wd HBd.out
        rw [Hneg.out hneg] at hr
        generalize placeI rc c = pc at *
        go_wp2_with fail
        first | exact hr | exact fin hr rfl
      · have hn2 := Hnn.out (by omega)
        have Hn2 := Lib.hid hn2
        clear hn2
        generalize placeI rc c = pc at *
        go_wp2_with fail
        go_roundw
        case rel => exact ⟨k + 1, by omega, by go_num, Hn2, HBd.out, Hbd.out⟩
        case measure => simp [intOf]; omega
    · obtain rfl : k = cols.length := by omega
      have hr := HR.out wo HB.out
      rw [← Hq.out, Hm.out, Hon.out, within_yes fun i hi => Hpl.out i hi hi] at hr
      simp only [Bool.true_and] at hr
      go_wp2_with fail
      first | exact hr | exact fin hr rfl
end Go.Proofs.Ytpncblagjkbemaa
end

/- A relation joined with one key, in plain words: the rows that have it. -/
section
set_option linter.unusedVariables false
set_option linter.unusedSimpArgs false
namespace Go.Proofs.Ytpncblagjkbemaa
set_option linter.unusedVariables false
set_option linter.unusedSimpArgs false
theorem rest_right {rc cols : List S} (hw : withinB cols rc = true) : restC rc cols = [] := by
  rw [List.eq_nil_iff_forall_not_mem]
  intro c hc
  obtain ⟨h1, h2⟩ := rest_mem.1 hc
  obtain ⟨k, hk, rfl⟩ := List.getElem_of_mem h1
  exact h2 (place_mem_iff.1 (within_at hw k hk))
theorem agree_key {rc cols : List S} {x key : List V} (hw : withinB cols rc = true) (ho : onceB cols = true) (hk : key.length = cols.length) : agreeR rc cols x key = (cmpR (grpK rc cols x) key == 0) := by
  rw [Bool.eq_iff_iff, agree_iff, beq_iff_eq, cmpR_cmp.zero]
  unfold grpK
  rw [pick_val]
  have e : key = cols.map (valC cols key) := (val_self ho hk).symm
  constructor
  · intro h
    rw [e, List.map_inj_left]
    intro c hc
    obtain ⟨k, hk, rfl⟩ := List.getElem_of_mem hc
    exact (h _ hc (place_mem_iff.1 (within_at hw k hk))).symm
  · intro h c hc _
    rw [e, List.map_inj_left] at h
    exact (h c hc).symm
theorem group_join {rc cols : List S} {l : List (List V)} {key : List V} (hw : withinB cols rc = true) (ho : onceB cols = true) (hk : key.length = cols.length) : joinL rc l cols [key] = withK (grpK rc cols) l key := by
  unfold joinL withK
  induction l with
  | nil => rfl
  | cons x r ih =>
    rw [List.flatMap_cons, ih, List.filter_cons, List.filter_cons, List.filter_nil, agree_key hw ho hk, rest_right hw]
    cases cmpR (grpK rc cols x) key == 0
    · rfl
    · simp [pickL, placesL]
theorem group_cols {rc cols : List S} (hw : withinB cols rc = true) : joinCols rc cols = rc := by
  unfold joinCols
  rw [rest_right hw, List.append_nil]
theorem key_may {cols : List S} {key : List V} (ho : onceB cols = true) (hk : key.length = cols.length) : mayRel cols [key] = true :=
  may_of ho (by simp) (fun x hx => by rw [List.mem_singleton.1 hx]; exact hk) (List.pairwise_singleton _ _)
theorem withK_len {f : List V → List V} {l : List (List V)} {k : List V} : (withK f l k).length ≤ l.length := List.length_filter_le _ _
theorem withK_up {rc : List S} {l : List (List V)} {f : List V → List V} {k : List V} (hm : mayRel rc l = true) : relCanon (withK f l k) = withK f l k :=
  canon_self cmpR_cmp (List.Pairwise.filter _ (may_up' hm))
theorem group_err {rc cols : List S} {l : List (List V)} {key : List V} (hr : rightB rc l cols = true) (hk : key.length = cols.length) : joinErr rc l cols [key] = 0 := by
  unfold rightB at hr
  simp only [Bool.and_eq_true] at hr
  obtain ⟨⟨hm, hw⟩, ho⟩ := hr
  have hc := may_many hm
  unfold joinErr
  rw [hm, key_may ho hk]
  simp only [Bool.and_self, if_true]
  refine madeErr_ok ?_ ?_
  · rw [group_cols hw]; exact hc.2
  · rw [group_join hw ho hk, withK_up hm]
    have := withK_len (f := grpK rc cols) (l := l) (k := key)
    omega
theorem keys_len {rc cols : List S} {l : List (List V)} : ∀ k ∈ keysL (grpK rc cols) l, k.length = cols.length := by
  intro k hk
  obtain ⟨x, -, rfl⟩ := List.mem_map.1 ((canon_mem cmpR_cmp _ _).1 hk)
  exact pick_len' _ _ _
end Go.Proofs.Ytpncblagjkbemaa
end

/- The document's relations of a call's own, one behind the other, in a slice of its own (XFldG's twin). -/
section
set_option linter.unusedVariables false
set_option linter.unusedSimpArgs false
namespace Go.Proofs.Ytpncblagjkbemaa
open Go.RowKit
set_option linter.unusedVariables false
set_option linter.unusedSimpArgs false
theorem infoQH : (Try.prog.info? 53).map (fun i => (i.zero, i.size, i.bytes)) = some (some (.agg #[.slice none 0 0, .slice none 0 0]), 2, 48) := by kernel_rfl
abbrev OwnQH := Own RH.enc 53 2
/-- A relation whose blocks are in a .. b. -/
structure RelS (a b : Nat) (W : World) (h : RH) (cols : List S) (rows : List (List V)) : Prop where
  cols : Strs a b W h.c.v cols
  rows : Rws a b W h.l.v rows
theorem RelS.agree {a b : Nat} {W W' : World} {h : RH} {cols : List S} {rows : List (List V)} (H : RelS a b W h cols rows) (ha : Agree a b W W') : RelS a b W' h cols rows :=
  ⟨Sl.agree H.cols Strs.loc ha, Sl.agree H.rows rowE_loc ha⟩
/-- Relations of the same columns, in a slice of a call's own. -/
def QLs (lo : Nat) (W : World) (v : Value) (cols : List S) (rs : List (List (List V))) : Prop :=
  ∃ (hs : List RH) (bs : List (Nat × Nat)), hs.length = rs.length ∧ bs.length = rs.length ∧ OwnQH lo W v hs ∧ bs.Pairwise (fun p q => p.2 ≤ q.1) ∧
    ∀ i (h1 : i < hs.length) (h2 : i < bs.length) (h3 : i < rs.length), lo ≤ bs[i].1 ∧ bs[i].2 ≤ W.heap.size ∧ RelS bs[i].1 bs[i].2 W hs[i] cols rs[i] ∧ ∀ g, v.ownBlock = some g → g < bs[i].1 ∨ bs[i].2 ≤ g
theorem QLs.nil (lo : Nat) (W : World) (cols : List S) : QLs lo W (.slice none 0 0) cols [] := ⟨[], [], rfl, rfl, Own.nil _ _ _ _ _, List.Pairwise.nil, fun i h => absurd h (Nat.not_lt_zero _)⟩
theorem QLs.slice {lo : Nat} {W : World} {v : Value} {cols : List S} {rs : List (List (List V))} (h : QLs lo W v cols rs) : ∃ p c, v = .slice p rs.length c := by
  obtain ⟨hs, bs, hl, -, ho, -⟩ := h
  obtain ⟨p, c, e⟩ := Own.slice ho
  exact ⟨p, c, by rw [e, hl]⟩
theorem QLs.lt {lo : Nat} {W : World} {v : Value} {cols : List S} {rs : List (List (List V))} (h : QLs lo W v cols rs) : ∀ k, v.ownBlock = some k → lo ≤ k ∧ k < W.heap.size := by
  obtain ⟨hs, bs, -, -, ho, -⟩ := h
  exact Own.lt ho
theorem QLs.ne_def {lo : Nat} {W : World} {v : Value} {cols : List S} {rs : List (List (List V))} (h : QLs lo W v cols rs) {D : Nat} {o : Obj} (hb : W.heap[D]? = some o) (hc : o.isCells = false) : v.ownBlock ≠ some D := by
  obtain ⟨hs, bs, -, -, ho, -⟩ := h
  exact Own.ne_def ho hb hc
theorem QLs.keptOnly {A : Nat → Prop} {lo : Nat} {W W' : World} {v : Value} {cols : List S} {rs : List (List (List V))} (h : QLs lo W v cols rs) (hO : Only A W W') (hA : ∀ b, A b → b < lo) : QLs lo W' v cols rs := by
  obtain ⟨hs, bs, hl, hbl, ho, hp, hi⟩ := h
  refine ⟨hs, bs, hl, hbl, Own.same ho (fun g e => hO.block g (Own.lt ho g e).2 (fun hz => by have := hA g hz; have := (Own.lt ho g e).1; omega)), hp, fun i h1 h2 h3 => ?_⟩
  obtain ⟨k1, k2, k3, k4⟩ := hi i h1 h2 h3
  exact ⟨k1, Nat.le_trans k2 hO.size, k3.agree (fun b hb1 hb2 => hO.block b (by omega) (fun hz => by have := hA b hz; omega)), k4⟩
theorem QLs.kept {lo : Nat} {W W' : World} {v : Value} {cols : List S} {rs : List (List (List V))} (h : QLs lo W v cols rs) (hB : Below W.heap.size W W') : QLs lo W' v cols rs :=
  h.keptOnly (Below.only (A := fun _ => False) hB) (fun _ h => h.elim)
/-- One relation more. -/
theorem QLs.snoc {lo : Nat} {W W1 : World} {v : Value} {cols : List S} {rs : List (List (List V))} (h : QLs lo W v cols rs) (hlo : lo ≤ W.heap.size) (hB : Below W.heap.size W W1) (r : RH) {rows : List (List V)} (hc : Strs W.heap.size W1.heap.size W1 r.c.v cols) (hr : Rws W.heap.size W1.heap.size W1 r.l.v rows) (hb : rs.length ≤ 1000000000)
    {n : Nat} (hn : n = W1.heap.size) : ∃ v' w', (Builtin.append_ #[72, 72] 72 #[v, .slice (some ⟨n, 0, none⟩) 1 1]).run Try.prog (W1.alloc (.cells #[r.c.v, r.l.v] 53)) = .ok v' w' ∧ QLs lo w' v' cols (rs ++ [rows]) ∧ Appended W1 v w' v' := by
  subst hn
  have hlt0 := fun g e => (QLs.lt h g e).2
  obtain ⟨hs, bs, hl, hbl, ho0, hp, hiR⟩ := h
  have ho := Own.kept ho0 hB
  have hold : ∀ i (h1 : i < bs.length), bs[i].2 ≤ W.heap.size := fun i h1 => (hiR i (by omega) h1 (by omega)).2.1
  have hB1 := alloc_below W1 (.cells (RH.enc r).toArray 53)
  obtain ⟨i0, hi0, hz0, hz1, hz2⟩ := info_parts infoQH
  have hcell := CellsAt.newAt W1 (RH.enc r) 53 rfl
  have hsr : Src Try.prog 2 72 (.slice (some ⟨W1.heap.size, 0, none⟩) 1 1) [r].length ([r].flatMap RH.enc) (W1.alloc (.cells (RH.enc r).toArray 53)) :=
    Src.ofSlice _ Try.underlying72 _ _ _ _ (by simp [RH.enc]) (fun j u hu => by rw [Addr.add_lit]; exact hcell j u (by simpa using hu)) (fun u hu => by
      rw [List.flatMap_cons, List.flatMap_nil, List.append_nil] at hu
      exact RH.one _ u hu)
  have hz := hB.size
  obtain ⟨v', w', hrun, ho', hap⟩ := (Own.kept ho hB1).app _ _ _ i0 _ 48 Try.underlying72 hi0 hz0 hz1 hz2 rfl hsr (by simp only [List.length_cons, List.length_nil]; omega) (by omega) (Nat.le_trans (Nat.le_trans hlo hz) hB1.size)
  have hapw := (Appended.step v hB1).trans hap
  have hzw : W1.heap.size ≤ w'.heap.size := hapw.grown.size
  have hvold : ∀ g, v.ownBlock = some g → g < W.heap.size := hlt0
  have hgn : ∀ a b, b ≤ W1.heap.size → (∀ g, v.ownBlock = some g → g < a ∨ b ≤ g) → ∀ g, v'.ownBlock = some g → g < a ∨ b ≤ g := fun a b hb2 hg g e => by
    rcases hapw.moved with e2 | ⟨q, e2, hq⟩
    · exact hg g (e2 ▸ e)
    · rw [e2] at e; injection e with e; subst e; exact .inr (by omega)
  refine ⟨v', w', hrun, ⟨hs ++ [r], bs ++ [(W.heap.size, W1.heap.size)], by simp [hl], by simp [hbl], ho', ?_, fun i h1 h2 h3 => ?_⟩, hapw⟩
  · rw [List.pairwise_append]
    refine ⟨hp, List.pairwise_singleton _ _, fun p hp1 q hq => ?_⟩
    rw [List.mem_singleton] at hq
    subst hq
    obtain ⟨i, hi, rfl⟩ := List.getElem_of_mem hp1
    exact hold i hi
  · by_cases hlt : i < hs.length
    · simp only [List.getElem_append_left hlt, List.getElem_append_left (show i < bs.length by omega), List.getElem_append_left (show i < rs.length by omega)]
      obtain ⟨k1, k2, k3, k4⟩ := hiR i hlt (by omega) (by omega)
      exact ⟨k1, by omega, (k3.agree (.below hB k2)).agree (hapw.agree (by omega) (fun k e => k4 k e)), hgn _ _ (by omega) k4⟩
    · have e1 : i = hs.length := by rw [List.length_append, List.length_singleton] at h1; omega
      subst e1
      have a1 : (hs ++ [r])[hs.length] = r := by simp
      have a2 : (bs ++ [(W.heap.size, W1.heap.size)])[hs.length]'h2 = (W.heap.size, W1.heap.size) := by
        rw [List.getElem_append_right (by omega)]
        simp
      have a3 : (rs ++ [rows])[hs.length]'h3 = rows := by
        rw [List.getElem_append_right (by omega)]
        simp
      have hnew : RelS W.heap.size W1.heap.size W1 r cols rows := ⟨hc, hr⟩
      have := hnew.agree (hapw.agree (Nat.le_refl _) (fun k e => .inl (hvold k e)))
      simp only [a1, a2, a3]
      exact ⟨hlo, hzw, this, hgn _ _ (Nat.le_refl _) (fun g e => .inl (hvold g e))⟩
end Go.Proofs.Ytpncblagjkbemaa
end

/- The document's Without. (Printed by meo.py, merf.py.) -/
section
set_option linter.unusedVariables false
set_option linter.unusedSimpArgs false
namespace Go.Proofs.Ytpncblagjkbemaa
open Go.RowKit
set_option linter.unusedVariables false
set_option linter.unusedSimpArgs false
attribute [local go_sem ↓] Go.wp_at_zero Go.wp_at_succ

end Go.Proofs.Ytpncblagjkbemaa
end

/- The document's Join. (Printed by mep.py, merf.py.) -/
section
set_option linter.unusedVariables false
set_option linter.unusedSimpArgs false
namespace Go.Proofs.Ytpncblagjkbemaa
open Go.RowKit
set_option linter.unusedVariables false
set_option linter.unusedSimpArgs false
attribute [local go_sem ↓] Go.wp_at_zero Go.wp_at_succ

theorem joinL_take (ac : List S) (la : List (List V)) (bc : List S) (lb : List (List V)) (i : Nat) (h : i < la.length) : joinL ac (la.take (i + 1)) bc lb = joinL ac (la.take i) bc lb ++ ((lb.filter (agreeR ac bc la[i])).map fun y => la[i] ++ pickL y (placesL (restC ac bc) bc)) := by
  unfold joinL
  rw [List.take_succ_eq_append_getElem h, List.flatMap_append]
  simp
theorem joinL_len (ac : List S) (la : List (List V)) (bc : List S) (lb : List (List V)) : (joinL ac la bc lb).length ≤ la.length * lb.length := by
  unfold joinL
  induction la with
  | nil => simp
  | cons a r ih =>
    rw [List.flatMap_cons, List.length_append, List.length_map, List.length_cons, Nat.succ_mul]
    have : (lb.filter (agreeR ac bc a)).length ≤ lb.length := List.length_filter_le _ _
    omega
theorem within_rest (a b : List S) : withinB (restC a b) b = true := within_sub (fun c h => (List.mem_filter.1 h).1)
set_option maxRecDepth 100000 in
set_option pp.deepTerms true in
set_option maxHeartbeats 16000000 in
theorem refJoin_any (lca hca lra hra lcb hcb lrb hrb : Nat) (ac bc : List S) (pa pb : Option Addr) (ca cb : Nat) (la lb : List (List V)) (lva lvb : Value) (w : World) (ha : Strs lca hca w (.slice pa ac.length ca) ac) (hha : hca ≤ w.heap.size) (hla : Rws lra hra w lva la) (hhla : hra ≤ w.heap.size) (hb : Strs lcb hcb w (.slice pb bc.length cb) bc) (hhb : hcb ≤ w.heap.size) (hlb : Rws lrb hrb w lvb lb) (hhlb : hrb ≤ w.heap.size) (hras : ∀ x ∈ la, ∀ a ∈ x, a.s.length ≤ 9223372036854775807) (hrbs : ∀ x ∈ lb, ∀ a ∈ x, a.s.length ≤ 9223372036854775807) (hll : la.length ≤ 1000000) (hllb : lb.length ≤ 1000000) (R : Ending → World → Prop)
    (hR : ∀ w' cv2 lv2, Below w.heap.size w w' → Strs w.heap.size w'.heap.size w' cv2 (okL (joinErr ac la bc lb) (joinCols ac bc)) → Rws w.heap.size w'.heap.size w' lv2 (okL (joinErr ac la bc lb) (relCanon (joinL ac la bc lb))) → R (.returned (.tuple #[.agg #[cv2, lv2], .int .i64 (joinErr ac la bc lb)])) w') :
    Calls Try.prog 42 #[.agg #[.slice pa ac.length ca, lva], .agg #[.slice pb bc.length cb, lvb]] w R := by
  have HR := Lib.hid hR
  have Ha := Lib.hid ha
  have Hb := Lib.hid hb
  have Hla := Lib.hid hla
  have Hlb := Lib.hid hlb
  have Hras := Lib.hid hras
  have Hrbs := Lib.hid hrbs
  obtain ⟨av, av2, rfl, -, -, -, -⟩ := hla.form
  obtain ⟨bv, bv2, rfl, -, -, -, -⟩ := hlb.form
  have hal63 := ha.len
  have hbl63 := hb.len
  clear hR ha hb hla hlb hras hrbs
  obtain ⟨wa, ewa⟩ : ∃ x, x = w.alloc (.cells #[.slice pa ac.length ca, .slice av la.length av2] 53) := ⟨_, rfl⟩
  obtain ⟨wb, ewb⟩ : ∃ x, x = wa.alloc (.cells #[.slice pb bc.length cb, .slice bv lb.length bv2] 53) := ⟨_, rfl⟩
  obtain ⟨w2, ew2⟩ : ∃ x, x = wb.alloc (.cells #[.slice none 0 0, .slice none 0 0] 53) := ⟨_, rfl⟩
  have sa : wa.heap.size = w.heap.size + 1 := by rw [ewa]; simp
  have sb : wb.heap.size = w.heap.size + 1 + 1 := by rw [ewb]; simp [sa]
  have hBa : Below w.heap.size w wa := by rw [ewa]; exact alloc_below _ _
  have hBb : Below wa.heap.size wa wb := by rw [ewb]; exact alloc_below _ _
  have hBc : Below wb.heap.size wb w2 := by rw [ew2]; exact alloc_below _ _
  have hb1 : Blk wa w.heap.size [.slice pa ac.length ca, .slice av la.length av2] 53 := by rw [ewa]; exact Blk.new w [.slice pa ac.length ca, .slice av la.length av2] _ rfl
  have hb2 : Blk wb (w.heap.size + 1) [.slice pb bc.length cb, .slice bv lb.length bv2] 53 := by rw [ewb]; exact Blk.new wa [.slice pb bc.length cb, .slice bv lb.length bv2] _ sa.symm
  have hb3 : Blk w2 (w.heap.size + 1 + 1) [.slice none 0 0, .slice none 0 0] 53 := by rw [ew2]; exact Blk.new wb [.slice none 0 0, .slice none 0 0] _ sb.symm
  have hb1 := (hb1.below hBb hb1.lt).below hBc (by omega)
  have hb2 := hb2.below hBc hb2.lt
  have hB := hBa.trans ((hBb.mono hBa.size).trans (hBc.mono (by omega)))
  go_enter Try.func42, Try.ntmps42
  go_upto_region 1 with fail
  rw [← ewa, ← ewb, ← ew2]
  clear ewa ewb ew2 hBa hBb hBc sa sb
  have HB := Lib.hid hB
  have Hb1 := Lib.hid hb1
  have Hb2 := Lib.hid hb2
  have Hb3 := Lib.hid hb3
  have hz2 := hB.size
  have hl3 := hb3.lt
  clear hb1 hb2 hb3 hB
  obtain ⟨c0, c1⟩ := Hb1.out.cells.c2
  simp only [Nat.zero_add] at c1
  go_wp2_with fail
  refine refMay_any lra hra lca hca ac _ _ la _ w2 (Sl.below Ha.out Strs.loc HB.out hha) (by omega) (Sl.below Hla.out rowE_loc HB.out hhla) (by omega) Hras.out _ (fun w5 hB5 => ?_)
  have hz5 := hB5.size
  have HA5 := Lib.hid hB5
  have HW5 := Lib.hid (HB.out.trans (hB5.mono hz2))
  clear hB5 c0 c1
  obtain ⟨c0, c1⟩ := (Hb2.out.below HA5.out (by omega)).cells.c2
  simp only [Nat.zero_add] at c1
  go_wp2_with fail
  refine refMay_any lrb hrb lcb hcb bc _ _ lb _ w5 (Sl.below Hb.out Strs.loc HW5.out hhb) (by omega) (Sl.below Hlb.out rowE_loc HW5.out hhlb) (by omega) Hrbs.out _ (fun w6 hB6 => ?_)
  have hz6 := hB6.size
  have HA6 := Lib.hid (HA5.out.trans (hB6.mono (by omega)))
  have HW6 := Lib.hid (HB.out.trans (HA6.out.mono hz2))
  clear hB6 c0 c1
  have Hd1 := Lib.hid (Hb1.out.below HA6.out (by omega))
  have Hd2 := Lib.hid (Hb2.out.below HA6.out (by omega))
  have Hd3 := Lib.hid (Hb3.out.below HA6.out hl3)
  have hld : w.heap.size + 1 + 1 < w6.heap.size := by omega
  obtain ⟨c0, c1⟩ := Hd1.out.cells.c2
  obtain ⟨d0, d1⟩ := Hd2.out.cells.c2
  simp only [Nat.zero_add] at c1 d1
  cases hm : mayRel ac la
  · obtain ⟨e0, e1⟩ := Hd3.out.cells.c2
    have f0 := Hd3.out.free 0
    have f1 := Hd3.out.free 1
    simp only [Nat.zero_add] at e1
    have he : joinErr ac la bc lb = 2 := by unfold joinErr; rw [hm]; rfl
    obtain ⟨t1, t2, t3⟩ := refTail (pc := none) (pr := none) (nc := 0) (nr := 0) (qc := 0) (qr := 0) Hd3.out
    have hr := HR.out _ _ _ ((HW6.out.setCell (p := ⟨w.heap.size + 1 + 1, 0, none⟩) (by show w.heap.size ≤ w.heap.size + 1 + 1; omega) (.slice none 0 0)).setCell (p := ⟨w.heap.size + 1 + 1, 1, none⟩) (by show w.heap.size ≤ w.heap.size + 1 + 1; omega) (.slice none 0 0)) (by rw [he]; exact Sl.nil _ _ _ _ _) (by rw [he]; exact Sl.nil _ _ _ _ _)
    rw [he] at hr
    have Hr := Lib.hid hr
    have Ht := Lib.hid t1
    clear hr t1 t2 t3 he hm
    go_wp2_with fail
    exact ret_cell_tmp rfl rfl Ht.out rfl rfl Hr.out
  have Hm := Lib.hid hm
  clear hm
  cases hmb : mayRel bc lb
  · obtain ⟨e0, e1⟩ := Hd3.out.cells.c2
    have f0 := Hd3.out.free 0
    have f1 := Hd3.out.free 1
    simp only [Nat.zero_add] at e1
    have he : joinErr ac la bc lb = 2 := by unfold joinErr; rw [Hm.out, hmb]; rfl
    obtain ⟨t1, t2, t3⟩ := refTail (pc := none) (pr := none) (nc := 0) (nr := 0) (qc := 0) (qr := 0) Hd3.out
    have hr := HR.out _ _ _ ((HW6.out.setCell (p := ⟨w.heap.size + 1 + 1, 0, none⟩) (by show w.heap.size ≤ w.heap.size + 1 + 1; omega) (.slice none 0 0)).setCell (p := ⟨w.heap.size + 1 + 1, 1, none⟩) (by show w.heap.size ≤ w.heap.size + 1 + 1; omega) (.slice none 0 0)) (by rw [he]; exact Sl.nil _ _ _ _ _) (by rw [he]; exact Sl.nil _ _ _ _ _)
    rw [he] at hr
    have Hr := Lib.hid hr
    have Ht := Lib.hid t1
    clear hr t1 t2 t3 he hmb
    go_wp2_with fail
    exact ret_cell_tmp rfl rfl Ht.out rfl rfl Hr.out
  have Hmb := Lib.hid hmb
  clear hmb
  have hmca := (may_many Hm.out).2
  have hmcb := (may_many Hmb.out).2
  have hrcl := rest_len ac bc
  have he : joinErr ac la bc lb = madeErr (joinCols ac bc) (joinL ac la bc lb) := by unfold joinErr; rw [Hm.out, Hmb.out]; rfl
  rw [he] at HR
  clear he
  have Hag : Hid (∀ x y, refAgreeB ac bc x y = agreeR ac bc x y) := Lib.hid (fun x y => agree_same x y (may_once Hm.out))
  obtain ⟨v8, w8, hr8, ho8, ha8⟩ := appTL (Own.nil strE 9 1 w6.heap.size w6) (Sl.below Ha.out Strs.loc HW6.out hha) (by simp; omega) (Nat.le_refl _)
  rw [List.nil_append] at ho8
  have hB8 : Below w6.heap.size w6 w8 := ha8.below (Nat.le_refl _) (fun k e => by cases e)
  have HB8 := Lib.hid hB8
  have Ho8 := Lib.hid ho8
  have Hr8 := Lib.hid hr8
  have hz8 := hB8.size
  clear hr8 ho8 ha8 hB8
  go_wp2_with (at_builtin; refine AtApp.of ?_)
  refine AtApp.go Hr8.out rfl rfl rfl rfl ?_
  obtain ⟨p8, q8, rfl⟩ := Own.slice Ho8.out
  clear c0 c1 d0 d1
  go_wp2_with fail
  go_loopw [9, 10] (fun t9 t10 wr => ∃ (k : Nat), k ≤ bc.length ∧ t10 = .int .i64 k ∧ OwnT w8.heap.size wr t9 (restC ac (bc.take k)) ∧ Below w8.heap.size w8 wr) (fun _ t10 _ => bc.length - (intOf t10).toNat)
  case atStart => exact ⟨0, Nat.zero_le _, rfl, Own.nil _ _ _ _ _, Below.refl _ _⟩
  case round =>
    obtain ⟨k, hk, rfl, ho, hB⟩ := hrel
    obtain ⟨wo, ewo⟩ : ∃ x, x = wr := ⟨_, rfl⟩
    subst ewo
    have Ho := Lib.hid ho
    have HBo := Lib.hid hB
    have HB6o := Lib.hid (HB8.out.trans (hB.mono (by omega)))
    have HBw := Lib.hid (HW6.out.trans (HB6o.out.mono (by omega)))
    have hzo := hB.size
    have Hbo1 := Lib.hid (Hd1.out.below HB6o.out (by omega))
    have Hbo2 := Lib.hid (Hd2.out.below HB6o.out (by omega))
    have kk0 : (0 : Int) ≤ (k : Int) := by omega
    obtain ⟨po, co, hpo⟩ := Own.slice ho
    have hfl : (restC ac (bc.take k)).length ≤ k := Nat.le_trans (List.length_filter_le _ _) (by rw [List.length_take]; omega)
    clear ho hB
    obtain ⟨c0, c1⟩ := Hbo1.out.cells.c2
    obtain ⟨d0, d1⟩ := Hbo2.out.cells.c2
    simp only [Nat.zero_add] at c1 d1
    by_cases hlt : k < bc.length
    · have kkl : (k : Int) < (bc.length : Int) := by omega
      obtain ⟨b4, o4, rfl, hb4, hst4⟩ := Strs.at (Sl.below Hb.out Strs.loc HBw.out hhb) (by omega) (by omega)
      have G4 := Lib.hid (hst4 k hlt)
      have Hst := Lib.hid (rest_succ ac bc k hlt)
      clear hst4
      generalize bc[k] = s at *
      generalize hX : restC ac (bc.take k) = X at *
      subst hpo
      go_upto_region 10 with fail
      have hS0 : Below wo.heap.size wo wo.drew := (Below.refl _ _).drew
      refine wp_region_held_drew (S := fun w' => Below wo.heap.size wo w') (by kernel_rfl) hS0 (fun hHeld => ?_)
      refine wpAnyH_take (i := 0) (v := .pointer (some ⟨w.heap.size, 0, none⟩)) rfl (by kernel_rfl) (by kernel_rfl) (by kernel_rfl) (fun _ _ _ h => h) (Or.inl ⟨by rfl, ?_⟩) hHeld ?_
      · intro w' hSw; go_simp
      try simp only [Act.put, List.getElem_toArray, List.getElem_cons_succ, List.getElem_cons_zero, List.setIfInBounds_toArray, List.set_cons_zero, List.set_cons_succ]
      refine wpAnyH_take (i := 1) (v := .slice pa ac.length ca) rfl (by kernel_rfl) (by kernel_rfl) (by kernel_rfl) (fun _ _ _ h => h) (Or.inl ⟨by rfl, ?_⟩) hHeld ?_
      · intro w' hSw; obtain ⟨z0, z1⟩ := (Hbo1.out.below hSw (by omega)).cells.c2; simp only [Nat.zero_add] at z1; go_simp
      try simp only [Act.put, List.getElem_toArray, List.getElem_cons_succ, List.getElem_cons_zero, List.setIfInBounds_toArray, List.set_cons_zero, List.set_cons_succ]
      refine wpAnyH_take (i := 2) (v := .pointer (some ⟨w.heap.size + 1, 0, none⟩)) rfl (by kernel_rfl) (by kernel_rfl) (by kernel_rfl) (fun _ _ _ h => h) (Or.inl ⟨by rfl, ?_⟩) hHeld ?_
      · intro w' hSw; go_simp
      try simp only [Act.put, List.getElem_toArray, List.getElem_cons_succ, List.getElem_cons_zero, List.setIfInBounds_toArray, List.set_cons_zero, List.set_cons_succ]
      refine wpAnyH_take (i := 3) (v := .slice (some ⟨b4, o4, none⟩) bc.length cb) rfl (by kernel_rfl) (by kernel_rfl) (by kernel_rfl) (fun _ _ _ h => h) (Or.inl ⟨by rfl, ?_⟩) hHeld ?_
      · intro w' hSw; obtain ⟨z0, z1⟩ := (Hbo2.out.below hSw (by omega)).cells.c2; simp only [Nat.zero_add] at z1; go_simp
      try simp only [Act.put, List.getElem_toArray, List.getElem_cons_succ, List.getElem_cons_zero, List.setIfInBounds_toArray, List.set_cons_zero, List.set_cons_succ]
      refine wpAnyH_take (i := 4) (v := .int .i64 ((k : Int))) rfl (by kernel_rfl) (by kernel_rfl) (by kernel_rfl) (fun _ _ _ h => h) (Or.inl ⟨by rfl, ?_⟩) hHeld ?_
      · intro w' hSw; go_simp
      try simp only [Act.put, List.getElem_toArray, List.getElem_cons_succ, List.getElem_cons_zero, List.setIfInBounds_toArray, List.set_cons_zero, List.set_cons_succ]
      refine wpAnyH_take (i := 5) (v := .pointer (some ⟨b4, o4 + k, none⟩)) rfl (by kernel_rfl) (by kernel_rfl) (by kernel_rfl) (fun _ _ _ h => h) (Or.inl ⟨by rfl, ?_⟩) hHeld ?_
      · intro w' hSw; go_simp
      try simp only [Act.put, List.getElem_toArray, List.getElem_cons_succ, List.getElem_cons_zero, List.setIfInBounds_toArray, List.set_cons_zero, List.set_cons_succ]
      refine wpAnyH_take (i := 6) (v := .string ⟨s.toArray⟩) rfl (by kernel_rfl) (by kernel_rfl) (by kernel_rfl) (fun _ _ _ h => h) (Or.inl ⟨by rfl, ?_⟩) hHeld ?_
      · intro w' hSw; have kx := G4.out w' hSw; go_simp
      try simp only [Act.put, List.getElem_toArray, List.getElem_cons_succ, List.getElem_cons_zero, List.setIfInBounds_toArray, List.set_cons_zero, List.set_cons_succ]
      refine wpAnyH_ready (rs := [7]) (by kernel_rfl) (by simp) ?_
      refine allCall (f := 88) (args := #[.slice pa ac.length ca, .string ⟨s.toArray⟩]) rfl (by kernel_rfl) (by kernel_rfl) ?_ AllReadyH.nil
      refine place_any lca hca ac s _ wo.drew (Sl.below Ha.out Strs.loc (HBw.out.trans (hS0.mono (by omega))) hha) _ ?_
      refine ⟨_, rfl, hS0, ?_⟩
      try simp only [Act.put, List.getElem_toArray, List.getElem_cons_succ, List.getElem_cons_zero, List.setIfInBounds_toArray, List.set_cons_zero, List.set_cons_succ]
      refine wpAnyH_take (i := 8) (v := .int .i64 (placeI ac s)) rfl (by kernel_rfl) (by kernel_rfl) (by kernel_rfl) (fun _ _ _ h => h) (Or.inl ⟨by rfl, ?_⟩) hHeld ?_
      · intro w' hSw; go_simp
      try simp only [Act.put, List.getElem_toArray, List.getElem_cons_succ, List.getElem_cons_zero, List.setIfInBounds_toArray, List.set_cons_zero, List.set_cons_succ]
      refine wpAnyH_done (by kernel_rfl) ?_ _
      clear hHeld
      have HBd := Lib.hid (HBo.out.drew)
      have Hod := Lib.hid (Ho.out.kept hS0)
      have G4d := G4.out wo.drew hS0
      have hpl := placeI_lt ac s
      by_cases hp : 0 ≤ placeI ac s
      · have hp2 : ¬ placeI ac s < 0 := by omega
        have Hst2 : Hid (restC ac (bc.take (k + 1)) = X) := Lib.hid (by rw [Hst.out, if_pos hp, List.append_nil])
        clear Hst hS0
        generalize placeI ac s = pq at *
        go_wp2_with fail
        go_roundw
        case rel => exact ⟨k + 1, by omega, by go_num, by rw [Hst2.out]; exact Hod.out, HBd.out⟩
        case measure => simp [intOf]; omega
      · have hp2 : placeI ac s < 0 := by omega
        have Hst2 : Hid (restC ac (bc.take (k + 1)) = X ++ [s]) := Lib.hid (by rw [Hst.out, if_neg hp])
        obtain ⟨v3, w3, hr3, ho3, ha3⟩ := appT1 Hod.out s rfl (by omega) (show w8.heap.size ≤ wo.heap.size by omega)
        have HO3 := Lib.hid ho3
        have HB3 := Lib.hid (HBd.out.trans (ha3.below (B := w8.heap.size) (show w8.heap.size ≤ wo.heap.size by omega) (fun q e => (Own.lt Ho.out q e).1)))
        have Hr3 := Lib.hid hr3
        clear ho3 ha3 hr3 Hst hS0 c0 c1 d0 d1
        obtain ⟨c0, c1⟩ := Hbo1.out.drew.cells.c2
        obtain ⟨d0, d1⟩ := Hbo2.out.drew.cells.c2
        simp only [Nat.zero_add] at c1 d1
        generalize placeI ac s = pq at *
        go_wp2_with (at_builtin; refine AtApp.of ?_)
        refine AtApp.go Hr3.out rfl rfl rfl rfl ?_
        go_wp2_with fail
        go_roundw
        case rel => exact ⟨k + 1, by omega, by go_num, by rw [Hst2.out]; exact HO3.out, HB3.out⟩
        case measure => simp [intOf]; omega
    · obtain rfl : k = bc.length := by omega
      have llt : ¬ ((bc.length : Nat) : Int) < (bc.length : Int) := by omega
      have hO := Ho.out
      rw [List.take_length] at hO hpo
      have HO9 := Lib.hid hO
      clear hO hfl
      subst hpo
      have Ho8o := Lib.hid (Ho8.out.kept HBo.out)
      have Hs9 := Lib.hid (OwnT.sl HO9.out)
      obtain ⟨v9, w9, hr9, ho9, ha9⟩ := appTL Ho8o.out Hs9.out (by omega) (show w6.heap.size ≤ wo.heap.size by omega)
      have hB9 : Below w6.heap.size wo w9 := ha9.below (show w6.heap.size ≤ wo.heap.size by omega) (fun q e => (Own.lt Ho8.out q e).1)
      have hz9 : wo.heap.size ≤ w9.heap.size := ha9.grown.size
      have Hs9b : Hid (Strs w8.heap.size wo.heap.size w9 (.slice po (restC ac bc).length co) (restC ac bc)) := Lib.hid (Sl.agree Hs9.out Strs.loc (ha9.agree (Nat.le_refl _) (fun q e => .inl (Own.lt Ho8.out q e).2)))
      have Hc9 : Hid (Strs w6.heap.size w9.heap.size w9 v9 (joinCols ac bc)) := Lib.hid (OwnT.sl ho9)
      have HB69 := Lib.hid (HB6o.out.trans hB9)
      have Hr9 := Lib.hid hr9
      clear hr9 ho9 ha9 hB9 c0 c1 d0 d1
      have HW9 := Lib.hid (HW6.out.trans (HB69.out.mono (by omega)))
      have He1 := Lib.hid (Hd1.out.below HB69.out (by omega))
      have He2 := Lib.hid (Hd2.out.below HB69.out (by omega))
      have He3 := Lib.hid (Hd3.out.below HB69.out hld)
      clear Hs9 Ho8o HO9 Ho Hbo1 Hbo2
      obtain ⟨c0, c1⟩ := (Hd1.out.below HB6o.out (by omega)).cells.c2
      obtain ⟨d0, d1⟩ := (Hd2.out.below HB6o.out (by omega)).cells.c2
      simp only [Nat.zero_add] at c1 d1
      go_wp2_with (at_builtin; refine AtApp.of ?_)
      refine AtApp.go Hr9.out rfl rfl rfl rfl ?_
      obtain ⟨p9, q9, rfl, -, -, -, -⟩ := Hc9.out.form
      clear c0 c1 d0 d1
      go_wp2_with fail
      have hcapJ : la.length * lb.length ≤ 1000000000000 := Nat.mul_le_mul hll hllb
      go_loopw [12, 13] (fun t12 t13 wr => ∃ (i : Nat), i ≤ la.length ∧ t13 = .int .i64 i ∧ LR w9.heap.size 0 wr t12 (joinL ac (la.take i) bc lb) ∧ Below w9.heap.size w9 wr) (fun _ t13 _ => la.length - (intOf t13).toNat)
      case atStart => exact ⟨0, Nat.zero_le _, rfl, LR.nil _ _ _, Below.refl _ _⟩
      case round =>
        obtain ⟨i, hi, rfl, ho, hB⟩ := hrel
        obtain ⟨wi, ewi⟩ : ∃ x, x = wr := ⟨_, rfl⟩
        subst ewi
        have Hoi := Lib.hid ho
        have HBi := Lib.hid hB
        have hzi := hB.size
        have ii0 : (0 : Int) ≤ (i : Int) := by omega
        obtain ⟨pi, ci, hpi⟩ := ho.slice
        have hjl : (joinL ac (la.take i) bc lb).length + lb.length ≤ 2000000000000 := by
          have h1 := joinL_len ac (la.take i) bc lb
          have h2 : (la.take i).length * lb.length ≤ la.length * lb.length := Nat.mul_le_mul_right _ (by rw [List.length_take]; omega)
          omega
        obtain ⟨c0, c1⟩ := (He1.out.below hB (by omega)).cells.c2
        obtain ⟨d0, d1⟩ := (He2.out.below hB (by omega)).cells.c2
        simp only [Nat.zero_add] at c1 d1
        clear ho hB
        by_cases hlt : i < la.length
        · have iil : (i : Int) < (la.length : Int) := by omega
          obtain ⟨b3, o3, rfl, hb3, hrow3⟩ := Rws.at (Sl.below Hla.out rowE_loc HW9.out hhla) (by omega) (by omega)
          obtain ⟨p1, q1, g1, r1⟩ := hrow3 i hlt
          have G1 := Lib.hid g1
          have R1 := Lib.hid r1
          have Hst := Lib.hid (joinL_take ac la bc lb i hlt)
          have Hxl : Hid (la[i].length = ac.length) := Lib.hid (may_len Hm.out _ (List.getElem_mem hlt))
          have Hxs : Hid (∀ a ∈ la[i], a.s.length ≤ 9223372036854775807) := Lib.hid (Hras.out _ (List.getElem_mem hlt))
          clear hrow3 g1 r1
          generalize la[i] = xa at *
          generalize hX : joinL ac (la.take i) bc lb = X at *
          go_wp2_with fail
          go_loopw [12, 14] (fun t12 t14 wk => ∃ (k : Nat), k ≤ lb.length ∧ t14 = .int .i64 k ∧ LR w9.heap.size 0 wk t12 (X ++ (((lb.take k).filter (agreeR ac bc xa)).map fun y => xa ++ pickL y (placesL (restC ac bc) bc))) ∧ Below w9.heap.size w9 wk) (fun _ t14 _ => lb.length - (intOf t14).toNat)
          case atStart => exact ⟨0, Nat.zero_le _, rfl, by simpa using Hoi.out, HBi.out⟩
          case round =>
            obtain ⟨k, hk, rfl, ho, hB⟩ := hrel
            obtain ⟨wk, ewk⟩ : ∃ x, x = wr := ⟨_, rfl⟩
            subst ewk
            have Hok := Lib.hid ho
            have HBk := Lib.hid hB
            have HBwk := Lib.hid (HW9.out.trans (hB.mono (by omega)))
            have hzk := hB.size
            have Hbk1 := Lib.hid (He1.out.below hB (by omega))
            have Hbk2 := Lib.hid (He2.out.below hB (by omega))
            have kk0 : (0 : Int) ≤ (k : Int) := by omega
            obtain ⟨po2, co2, hpo2⟩ := ho.slice
            have hjk : (X ++ (((lb.take k).filter (agreeR ac bc xa)).map fun y => xa ++ pickL y (placesL (restC ac bc) bc))).length ≤ 2000000000000 := by
              rw [List.length_append, List.length_map]
              have h1 := List.length_filter_le (agreeR ac bc xa) (lb.take k)
              rw [List.length_take] at h1
              omega
            clear ho hB c0 c1 d0 d1
            obtain ⟨c0, c1⟩ := Hbk1.out.cells.c2
            obtain ⟨d0, d1⟩ := Hbk2.out.cells.c2
            simp only [Nat.zero_add] at c1 d1
            by_cases hlk : k < lb.length
            · have kkl : (k : Int) < (lb.length : Int) := by omega
              obtain ⟨b4, o4, rfl, hb4, hrow4⟩ := Rws.at (Sl.below Hlb.out rowE_loc HW9.out hhlb) (by omega) (by omega)
              obtain ⟨p2, q2, g2, r2⟩ := hrow4 k hlk
              have G2 := Lib.hid g2
              have R2 := Lib.hid r2
              have Hsk : Hid (((lb.take (k + 1)).filter (agreeR ac bc xa)).map (fun y => xa ++ pickL y (placesL (restC ac bc) bc)) = (((lb.take k).filter (agreeR ac bc xa)).map fun y => xa ++ pickL y (placesL (restC ac bc) bc)) ++ (if agreeR ac bc xa lb[k] = true then [xa ++ pickL lb[k] (placesL (restC ac bc) bc)] else [])) := Lib.hid (by
                rw [List.take_succ_eq_append_getElem hlk, List.filter_append, List.filter_cons, List.filter_nil, List.map_append]
                cases agreeR ac bc xa lb[k] <;> rfl)
              have Hyl : Hid (lb[k].length = bc.length) := Lib.hid (may_len Hmb.out _ (List.getElem_mem hlk))
              have Hys : Hid (∀ a ∈ lb[k], a.s.length ≤ 9223372036854775807) := Lib.hid (Hrbs.out _ (List.getElem_mem hlk))
              have Hmet := Lib.hid (Hag.out xa lb[k])
              clear hrow4 g2 r2
              generalize lb[k] = xb at *
              generalize hXK : X ++ (((lb.take k).filter (agreeR ac bc xa)).map fun y => xa ++ pickL y (placesL (restC ac bc) bc)) = XK at *
              have HXK := Lib.hid hXK
              clear hXK
              subst hpo2
              go_upto_region 21 with fail
              have hS0 : Below wk.heap.size wk wk.drew := (Below.refl _ _).drew
              refine wp_region_held_drew (S := fun w' => Below wk.heap.size wk w') (by kernel_rfl) hS0 (fun hHeld => ?_)
              refine wpAnyH_take (i := 0) (v := .agg #[.slice pa ac.length ca, .slice (some ⟨b3, o3, none⟩) la.length av2]) rfl (by kernel_rfl) (by kernel_rfl) (by kernel_rfl) (fun _ _ _ h => h) (Or.inl ⟨by rfl, ?_⟩) hHeld ?_
              · intro w' hSw; obtain ⟨z0, z1⟩ := (Hbk1.out.below hSw (by omega)).cells.c2; simp only [Nat.zero_add] at z1; go_simp
              try simp only [Act.put, List.getElem_toArray, List.getElem_cons_succ, List.getElem_cons_zero, List.setIfInBounds_toArray, List.set_cons_zero, List.set_cons_succ]
              refine wpAnyH_take (i := 1) (v := .agg #[.slice pb bc.length cb, .slice (some ⟨b4, o4, none⟩) lb.length bv2]) rfl (by kernel_rfl) (by kernel_rfl) (by kernel_rfl) (fun _ _ _ h => h) (Or.inl ⟨by rfl, ?_⟩) hHeld ?_
              · intro w' hSw; obtain ⟨z0, z1⟩ := (Hbk2.out.below hSw (by omega)).cells.c2; simp only [Nat.zero_add] at z1; go_simp
              try simp only [Act.put, List.getElem_toArray, List.getElem_cons_succ, List.getElem_cons_zero, List.setIfInBounds_toArray, List.set_cons_zero, List.set_cons_succ]
              refine wpAnyH_take (i := 2) (v := .pointer (some ⟨w.heap.size, 1, none⟩)) rfl (by kernel_rfl) (by kernel_rfl) (by kernel_rfl) (fun _ _ _ h => h) (Or.inl ⟨by rfl, ?_⟩) hHeld ?_
              · intro w' hSw; go_simp
              try simp only [Act.put, List.getElem_toArray, List.getElem_cons_succ, List.getElem_cons_zero, List.setIfInBounds_toArray, List.set_cons_zero, List.set_cons_succ]
              refine wpAnyH_take (i := 3) (v := .slice (some ⟨b3, o3, none⟩) la.length av2) rfl (by kernel_rfl) (by kernel_rfl) (by kernel_rfl) (fun _ _ _ h => h) (Or.inl ⟨by rfl, ?_⟩) hHeld ?_
              · intro w' hSw; obtain ⟨z0, z1⟩ := (Hbk1.out.below hSw (by omega)).cells.c2; simp only [Nat.zero_add] at z1; go_simp
              try simp only [Act.put, List.getElem_toArray, List.getElem_cons_succ, List.getElem_cons_zero, List.setIfInBounds_toArray, List.set_cons_zero, List.set_cons_succ]
              refine wpAnyH_take (i := 4) (v := .int .i64 ((i : Int))) rfl (by kernel_rfl) (by kernel_rfl) (by kernel_rfl) (fun _ _ _ h => h) (Or.inl ⟨by rfl, ?_⟩) hHeld ?_
              · intro w' hSw; go_simp
              try simp only [Act.put, List.getElem_toArray, List.getElem_cons_succ, List.getElem_cons_zero, List.setIfInBounds_toArray, List.set_cons_zero, List.set_cons_succ]
              refine wpAnyH_take (i := 5) (v := .pointer (some ⟨b3, o3 + i, none⟩)) rfl (by kernel_rfl) (by kernel_rfl) (by kernel_rfl) (fun _ _ _ h => h) (Or.inl ⟨by rfl, ?_⟩) hHeld ?_
              · intro w' hSw; go_simp
              try simp only [Act.put, List.getElem_toArray, List.getElem_cons_succ, List.getElem_cons_zero, List.setIfInBounds_toArray, List.set_cons_zero, List.set_cons_succ]
              refine wpAnyH_take (i := 6) (v := .slice p1 xa.length q1) rfl (by kernel_rfl) (by kernel_rfl) (by kernel_rfl) (fun _ _ _ h => h) (Or.inl ⟨by rfl, ?_⟩) hHeld ?_
              · intro w' hSw; have kx := G1.out w' (HBk.out.trans (hSw.mono (by omega))); go_simp
              try simp only [Act.put, List.getElem_toArray, List.getElem_cons_succ, List.getElem_cons_zero, List.setIfInBounds_toArray, List.set_cons_zero, List.set_cons_succ]
              refine wpAnyH_take (i := 7) (v := .pointer (some ⟨w.heap.size + 1, 1, none⟩)) rfl (by kernel_rfl) (by kernel_rfl) (by kernel_rfl) (fun _ _ _ h => h) (Or.inl ⟨by rfl, ?_⟩) hHeld ?_
              · intro w' hSw; go_simp
              try simp only [Act.put, List.getElem_toArray, List.getElem_cons_succ, List.getElem_cons_zero, List.setIfInBounds_toArray, List.set_cons_zero, List.set_cons_succ]
              refine wpAnyH_take (i := 8) (v := .slice (some ⟨b4, o4, none⟩) lb.length bv2) rfl (by kernel_rfl) (by kernel_rfl) (by kernel_rfl) (fun _ _ _ h => h) (Or.inl ⟨by rfl, ?_⟩) hHeld ?_
              · intro w' hSw; obtain ⟨z0, z1⟩ := (Hbk2.out.below hSw (by omega)).cells.c2; simp only [Nat.zero_add] at z1; go_simp
              try simp only [Act.put, List.getElem_toArray, List.getElem_cons_succ, List.getElem_cons_zero, List.setIfInBounds_toArray, List.set_cons_zero, List.set_cons_succ]
              refine wpAnyH_take (i := 9) (v := .int .i64 ((k : Int))) rfl (by kernel_rfl) (by kernel_rfl) (by kernel_rfl) (fun _ _ _ h => h) (Or.inl ⟨by rfl, ?_⟩) hHeld ?_
              · intro w' hSw; go_simp
              try simp only [Act.put, List.getElem_toArray, List.getElem_cons_succ, List.getElem_cons_zero, List.setIfInBounds_toArray, List.set_cons_zero, List.set_cons_succ]
              refine wpAnyH_take (i := 10) (v := .pointer (some ⟨b4, o4 + k, none⟩)) rfl (by kernel_rfl) (by kernel_rfl) (by kernel_rfl) (fun _ _ _ h => h) (Or.inl ⟨by rfl, ?_⟩) hHeld ?_
              · intro w' hSw; go_simp
              try simp only [Act.put, List.getElem_toArray, List.getElem_cons_succ, List.getElem_cons_zero, List.setIfInBounds_toArray, List.set_cons_zero, List.set_cons_succ]
              refine wpAnyH_take (i := 11) (v := .slice p2 xb.length q2) rfl (by kernel_rfl) (by kernel_rfl) (by kernel_rfl) (fun _ _ _ h => h) (Or.inl ⟨by rfl, ?_⟩) hHeld ?_
              · intro w' hSw; have kx := G2.out w' (HBk.out.trans (hSw.mono (by omega))); go_simp
              try simp only [Act.put, List.getElem_toArray, List.getElem_cons_succ, List.getElem_cons_zero, List.setIfInBounds_toArray, List.set_cons_zero, List.set_cons_succ]
              refine wpAnyH_ready (rs := [12]) (by kernel_rfl) (by simp) ?_
              refine allCall (f := 89) (args := #[.agg #[.slice pa ac.length ca, .slice (some ⟨b3, o3, none⟩) la.length av2], .agg #[.slice pb bc.length cb, .slice (some ⟨b4, o4, none⟩) lb.length bv2], .slice p1 xa.length q1, .slice p2 xb.length q2]) rfl (by kernel_rfl) (by kernel_rfl) ?_ AllReadyH.nil
              have HBd := Lib.hid (HBwk.out.trans (hS0.mono (by omega)))
              have HB9k := Lib.hid (HBk.out.trans (hS0.mono (by omega)))
              refine refAgree_any lca hca lcb hcb lra hra lrb hrb ac bc _ _ _ _ _ _ _ _ _ _ xa xb _ _ wk.drew (Sl.below Ha.out Strs.loc HBd.out hha) (by show hca ≤ wk.heap.size; omega) (Sl.below Hb.out Strs.loc HBd.out hhb) (by show hcb ≤ wk.heap.size; omega) (Sl.below R1.out Row1.loc HB9k.out (by omega)) (by show hra ≤ wk.heap.size; omega) (Sl.below R2.out Row1.loc HB9k.out (by omega)) (by show hrb ≤ wk.heap.size; omega) Hxl.out Hyl.out Hxs.out Hys.out (by omega) (by omega) _ (fun wq hBq => ?_)
              have hBq' : Below wk.heap.size wk wq := hS0.trans hBq
              refine ⟨_, rfl, hBq', ?_⟩
              have HBq := Lib.hid hBq'
              clear hBq' hBq hHeld
              have hHeld := HBq.out
              try simp only [Act.put, List.getElem_toArray, List.getElem_cons_succ, List.getElem_cons_zero, List.setIfInBounds_toArray, List.set_cons_zero, List.set_cons_succ]
              refine wpAnyH_take (i := 13) (v := .bool (refAgreeB ac bc xa xb)) rfl (by kernel_rfl) (by kernel_rfl) (by kernel_rfl) (fun _ _ _ h => h) (Or.inl ⟨by rfl, ?_⟩) hHeld ?_
              · intro w' hSw; go_simp
              try simp only [Act.put, List.getElem_toArray, List.getElem_cons_succ, List.getElem_cons_zero, List.setIfInBounds_toArray, List.set_cons_zero, List.set_cons_succ]
              refine wpAnyH_done (by kernel_rfl) ?_ _
              clear hHeld
              have HBq2 := Lib.hid (HBk.out.trans (HBq.out.mono (by omega)))
              have hzq := HBq.out.size
              rw [Hmet.out]
              cases hbv : agreeR ac bc xa xb
              · have Hsk2 : Hid (X ++ ((lb.take (k + 1)).filter (agreeR ac bc xa)).map (fun y => xa ++ pickL y (placesL (restC ac bc) bc)) = XK) := Lib.hid (by rw [Hsk.out, hbv, ← HXK.out]; simp)
                have Hok2 := Lib.hid (Hok.out.kept HBq.out)
                clear hbv Hsk
                go_wp2_with fail
                go_roundw
                case rel => exact ⟨k + 1, by omega, by go_num, by rw [Hsk2.out]; exact Hok2.out, HBq2.out⟩
                case measure => simp [intOf]; omega
              · have Hsk2 : Hid (X ++ ((lb.take (k + 1)).filter (agreeR ac bc xa)).map (fun y => xa ++ pickL y (placesL (restC ac bc) bc)) = XK ++ [xa ++ pickL xb (placesL (restC ac bc) bc)]) := Lib.hid (by rw [Hsk.out, hbv, ← HXK.out, List.append_assoc]; rfl)
                have hxa : xa.length ≤ 32 := by rw [Hxl.out]; exact hmca
                obtain ⟨vx, wx, hrx, hox, hax⟩ := appVL (Own.nil V.enc 24 3 wq.heap.size wq) (Sl.below R1.out Row1.loc HBq2.out (by omega)) (by simp; omega) (Nat.le_refl _)
                rw [List.nil_append] at hox
                have hBx : Below wq.heap.size wq wx := hax.below (Nat.le_refl _) (fun k e => by cases e)
                have HBx := Lib.hid hBx
                have Hox := Lib.hid hox
                have Hrx := Lib.hid hrx
                have hzx := hBx.size
                have Gk := G1.out wq HBq2.out
                clear hrx hox hax hBx hbv Hsk c0 c1 d0 d1
                obtain ⟨c0, c1⟩ := (He1.out.below HBq2.out (by omega)).cells.c2
                simp only [Nat.zero_add] at c1
                go_wp2_with (at_builtin; refine AtApp.of ?_)
                refine AtApp.go Hrx.out rfl rfl rfl rfl ?_
                obtain ⟨px, qx, rfl⟩ := Own.slice Hox.out
                have HB9x := Lib.hid (HBq2.out.trans (HBx.out.mono (by omega)))
                clear c0 c1 Gk
                go_upto_region 25 with fail
                have HB9d : Hid (Below w9.heap.size w9 wx.drew) := Lib.hid HB9x.out.drew
                have Hoxd : Hid (OwnV wq.heap.size wx.drew (.slice px xa.length qx) xa) := Lib.hid (Own.kept Hox.out ((Below.refl _ _).drew))
                have HBqd : Hid (Below wq.heap.size wq wx.drew) := Lib.hid HBx.out.drew
                have hzd : wq.heap.size ≤ wx.drew.heap.size := hzx
                have hS0 : Only (fun z => (Value.slice px xa.length qx).ownBlock = some z) wx.drew wx.drew := Only.refl _ _
                refine wp_region_held_drew (S := fun w' => Only (fun z => (Value.slice px xa.length qx).ownBlock = some z) wx.drew w') (by kernel_rfl) hS0 (fun hHeld => ?_)
                clear hS0
                generalize wx.drew = wy at *
                have HSB : Hid (∀ w', Only (fun z => (Value.slice px xa.length qx).ownBlock = some z) wy w' → Below w9.heap.size w9 w') := Lib.hid (fun w' h => HB9d.out.trans (h.below (by omega) (fun z hz => by have := (Own.lt Hoxd.out z hz).1; omega)))
                refine wpAnyH_take (i := 0) (v := .slice px xa.length qx) rfl (by kernel_rfl) (by kernel_rfl) (by kernel_rfl) (fun _ _ _ h => h) (Or.inl ⟨by rfl, ?_⟩) hHeld ?_
                · intro w' hSw; go_simp
                try simp only [Act.put, List.getElem_toArray, List.getElem_cons_succ, List.getElem_cons_zero, List.setIfInBounds_toArray, List.set_cons_zero, List.set_cons_succ]
                refine wpAnyH_take (i := 1) (v := .pointer (some ⟨w.heap.size + 1, 1, none⟩)) rfl (by kernel_rfl) (by kernel_rfl) (by kernel_rfl) (fun _ _ _ h => h) (Or.inl ⟨by rfl, ?_⟩) hHeld ?_
                · intro w' hSw; go_simp
                try simp only [Act.put, List.getElem_toArray, List.getElem_cons_succ, List.getElem_cons_zero, List.setIfInBounds_toArray, List.set_cons_zero, List.set_cons_succ]
                refine wpAnyH_take (i := 2) (v := .slice (some ⟨b4, o4, none⟩) lb.length bv2) rfl (by kernel_rfl) (by kernel_rfl) (by kernel_rfl) (fun _ _ _ h => h) (Or.inl ⟨by rfl, ?_⟩) hHeld ?_
                · intro w' hSw; obtain ⟨z0, z1⟩ := (He2.out.below (HSB.out w' hSw) (by omega)).cells.c2; simp only [Nat.zero_add] at z1; go_simp
                try simp only [Act.put, List.getElem_toArray, List.getElem_cons_succ, List.getElem_cons_zero, List.setIfInBounds_toArray, List.set_cons_zero, List.set_cons_succ]
                refine wpAnyH_take (i := 3) (v := .int .i64 ((k : Int))) rfl (by kernel_rfl) (by kernel_rfl) (by kernel_rfl) (fun _ _ _ h => h) (Or.inl ⟨by rfl, ?_⟩) hHeld ?_
                · intro w' hSw; go_simp
                try simp only [Act.put, List.getElem_toArray, List.getElem_cons_succ, List.getElem_cons_zero, List.setIfInBounds_toArray, List.set_cons_zero, List.set_cons_succ]
                refine wpAnyH_take (i := 4) (v := .pointer (some ⟨b4, o4 + k, none⟩)) rfl (by kernel_rfl) (by kernel_rfl) (by kernel_rfl) (fun _ _ _ h => h) (Or.inl ⟨by rfl, ?_⟩) hHeld ?_
                · intro w' hSw; go_simp
                try simp only [Act.put, List.getElem_toArray, List.getElem_cons_succ, List.getElem_cons_zero, List.setIfInBounds_toArray, List.set_cons_zero, List.set_cons_succ]
                refine wpAnyH_take (i := 5) (v := .slice p2 xb.length q2) rfl (by kernel_rfl) (by kernel_rfl) (by kernel_rfl) (fun _ _ _ h => h) (Or.inl ⟨by rfl, ?_⟩) hHeld ?_
                · intro w' hSw; have kx := G2.out w' (HSB.out w' hSw); go_simp
                try simp only [Act.put, List.getElem_toArray, List.getElem_cons_succ, List.getElem_cons_zero, List.setIfInBounds_toArray, List.set_cons_zero, List.set_cons_succ]
                refine wpAnyH_take (i := 6) (v := .slice po (restC ac bc).length co) rfl (by kernel_rfl) (by kernel_rfl) (by kernel_rfl) (fun _ _ _ h => h) (Or.inl ⟨by rfl, ?_⟩) hHeld ?_
                · intro w' hSw; go_simp
                try simp only [Act.put, List.getElem_toArray, List.getElem_cons_succ, List.getElem_cons_zero, List.setIfInBounds_toArray, List.set_cons_zero, List.set_cons_succ]
                refine wpAnyH_take (i := 7) (v := .pointer (some ⟨w.heap.size + 1, 0, none⟩)) rfl (by kernel_rfl) (by kernel_rfl) (by kernel_rfl) (fun _ _ _ h => h) (Or.inl ⟨by rfl, ?_⟩) hHeld ?_
                · intro w' hSw; go_simp
                try simp only [Act.put, List.getElem_toArray, List.getElem_cons_succ, List.getElem_cons_zero, List.setIfInBounds_toArray, List.set_cons_zero, List.set_cons_succ]
                refine wpAnyH_take (i := 8) (v := .slice pb bc.length cb) rfl (by kernel_rfl) (by kernel_rfl) (by kernel_rfl) (fun _ _ _ h => h) (Or.inl ⟨by rfl, ?_⟩) hHeld ?_
                · intro w' hSw; obtain ⟨z0, z1⟩ := (He2.out.below (HSB.out w' hSw) (by omega)).cells.c2; simp only [Nat.zero_add] at z1; go_simp
                try simp only [Act.put, List.getElem_toArray, List.getElem_cons_succ, List.getElem_cons_zero, List.setIfInBounds_toArray, List.set_cons_zero, List.set_cons_succ]
                refine wpAnyH_ready (rs := [9]) (by kernel_rfl) (by simp) ?_
                refine allCall (f := 79) (args := #[.slice p2 xb.length q2, .slice po (restC ac bc).length co, .slice pb bc.length cb]) rfl (by kernel_rfl) (by kernel_rfl) ?_ AllReadyH.nil
                refine refPick_any lrb hrb w8.heap.size wo.heap.size lcb hcb xb (restC ac bc) bc _ _ _ wy (Sl.below R2.out Row1.loc HB9d.out (by omega)) (by omega) (Sl.below Hs9b.out Strs.loc HB9d.out (by omega)) (by omega) (Sl.below Hb.out Strs.loc (HW9.out.trans (HB9d.out.mono (by omega))) hhb) (by omega) (within_rest ac bc) Hyl.out (by omega) _ (fun wz1 vq hBz hoq => ?_)
                obtain ⟨py, hpy⟩ : ∃ py, pickL xb (placesL (restC ac bc) bc) = py := ⟨_, rfl⟩
                have hpyl : py.length ≤ 32 := by rw [← hpy, pick_len]; omega
                rw [hpy] at hoq Hsk2
                have hzz1 := hBz.size
                obtain ⟨vz, wz, hrz, hoz, haz⟩ := appVL (Own.kept Hoxd.out hBz) (OwnV.sl hoq) (by omega) (by omega)
                have hOz : Only (fun z => (Value.slice px xa.length qx).ownBlock = some z) wy wz := (Below.only hBz).trans ⟨haz.grown.os, haz.grown.tape, haz.grown.output, haz.grown.size, fun q hq hA => haz.grown.block q hq (fun e => hA e.symm)⟩
                have HOz := Lib.hid hOz
                have Hoz := Lib.hid hoz
                have Hrz := Lib.hid hrz
                obtain ⟨pz, qz, rfl⟩ := Own.slice hoz
                obtain ⟨pq, qq, rfl⟩ := Own.slice hoq
                have HBqz := Lib.hid (HBqd.out.trans (hOz.below (by omega) (fun z hz => (Own.lt Hoxd.out z hz).1)))
                refine ⟨_, rfl, Below.only hBz, ?_⟩
                clear hHeld hBz hoq hoz haz hrz hOz
                try simp only [Act.put, List.getElem_toArray, List.getElem_cons_succ, List.getElem_cons_zero, List.setIfInBounds_toArray, List.set_cons_zero, List.set_cons_succ]
                refine wpAnyH_ready (rs := [10]) (by kernel_rfl) (by simp) ?_
                refine allVal rfl (by kernel_rfl) (execApp Hrz.out rfl (by kernel_rfl) (by kernel_rfl)) HOz.out ?_ AllReadyH.nil
                have hHeld := HOz.out
                try simp only [Act.put, List.getElem_toArray, List.getElem_cons_succ, List.getElem_cons_zero, List.setIfInBounds_toArray, List.set_cons_zero, List.set_cons_succ]
                refine wpAnyH_take (i := 11) (v := .slice pz (xa ++ py).length qz) rfl (by kernel_rfl) (by kernel_rfl) (by kernel_rfl) (fun _ _ _ h => h) (Or.inl ⟨by rfl, ?_⟩) hHeld ?_
                · intro w' hSw; go_simp
                try simp only [Act.put, List.getElem_toArray, List.getElem_cons_succ, List.getElem_cons_zero, List.setIfInBounds_toArray, List.set_cons_zero, List.set_cons_succ]
                refine wpAnyH_done (by kernel_rfl) ?_ _
                clear hHeld
                have Hoz2 := Lib.hid Hoz.out
                have hBkz : Below wk.heap.size wk wz := HBq.out.trans (HBqz.out.mono (by omega))
                have Hokz := Lib.hid (Hok.out.kept hBkz)
                have hzz := hBkz.size
                obtain ⟨v3, w3, hr3, ho3, ha3⟩ := LR.snoc Hokz.out (Nat.zero_le wq.heap.size) pz qz (xa ++ py) (OwnV.sl Hoz.out) (Nat.le_refl _) (fun q e => .inl (by have := (Hok.out.lt q e).2; omega)) rfl (by omega) (by omega)
                have HO3 := Lib.hid ho3
                have HB3 := Lib.hid ((HBk.out.trans (hBkz.mono (by omega))).trans (ha3.below (B := w9.heap.size) (by omega) (fun q e => (Hok.out.lt q e).1)))
                rw [List.length_append] at hr3
                have Hr3 := Lib.hid hr3
                clear ho3 ha3 hr3 hBkz
                go_wp2_with (at_builtin; refine AtApp.of ?_)
                refine AtApp.go Hr3.out rfl rfl rfl rfl ?_
                go_wp2_with fail
                go_roundw
                case rel => exact ⟨k + 1, by omega, by go_num, by rw [Hsk2.out]; exact HO3.out, HB3.out⟩
                case measure => simp [intOf]; omega
            · obtain rfl : k = lb.length := by omega
              have llk : ¬ ((lb.length : Nat) : Int) < (lb.length : Int) := by omega
              have hO := Hok.out
              rw [List.take_length, ← Hst.out] at hO
              have HO := Lib.hid hO
              clear hO Hok
              go_wp2_with fail
              go_roundw
              case rel => exact ⟨i + 1, by omega, by go_num, HO.out, HBk.out⟩
              case measure => simp [intOf]; omega
        · obtain rfl : i = la.length := by omega
          have llt : ¬ ((la.length : Nat) : Int) < (la.length : Int) := by omega
          have hO := Hoi.out
          rw [List.take_length] at hO hpi
          have HO := Lib.hid hO
          clear hO
          have hll2 : (joinL ac la bc lb).length ≤ 1000000000000 := Nat.le_trans (joinL_len ac la bc lb) hcapJ
          have HBm := Lib.hid (HB69.out.trans (HBi.out.mono (by omega)))
          have HBwm := Lib.hid (HW9.out.trans (HBi.out.mono (by omega)))
          subst hpi
          go_wp2_with fail
          obtain ⟨wm, ewm⟩ : ∃ x, x = wi := ⟨_, rfl⟩
          subst ewm
          refine refMadeP_any 0 wm.heap.size w6.heap.size w9.heap.size (joinCols ac bc) _ _ (joinL ac la bc lb) _ wm (Sl.below Hc9.out Strs.loc HBi.out (Nat.le_refl _)) (by omega) (HO.out.rws (Nat.zero_le _)) (Nat.le_refl _) hll2 (fun x hx => by
            obtain ⟨a, ha, hx⟩ := List.mem_flatMap.1 hx
            obtain ⟨y, hy, rfl⟩ := List.mem_map.1 hx
            rw [List.length_append, pick_len, may_len Hm.out a ha]; omega) (fun x hx => by
            obtain ⟨a, ha, hx⟩ := List.mem_flatMap.1 hx
            obtain ⟨y, hy, rfl⟩ := List.mem_map.1 hx
            intro z hz
            rcases List.mem_append.1 hz with hz | hz
            · exact Hras.out a ha z hz
            · exact pick_str (Hrbs.out y (List.mem_filter.1 hy).1) z hz) _ (fun w7 cv7 lv7 hB7 hT7 hO7 => ?_)
          generalize hE : madeErr (joinCols ac bc) (joinL ac la bc lb) = err at *
          generalize okL err (joinCols ac bc) = oc at *
          generalize okL err (relCanon (joinL ac la bc lb)) = ol at *
          obtain ⟨p7, q7, rfl, -, -, -, -⟩ := hT7.form
          obtain ⟨p8, q8, rfl, -, -, -, -⟩ := hO7.form
          have hzm := HBm.out.size
          have hB67 : Below w6.heap.size w6 w7 := HBm.out.trans (hB7.mono hzm)
          have hb7 := Hd3.out.below hB67 hld
          obtain ⟨e0, e1⟩ := hb7.cells.c2
          have f0 := hb7.free 0
          have f1 := hb7.free 1
          simp only [Nat.zero_add] at e1
          obtain ⟨t1, t2, t3⟩ := refTail (pc := p7) (pr := p8) (nc := oc.length) (nr := ol.length) (qc := q7) (qr := q8) hb7
          have hsz7 : w6.heap.size ≤ w7.heap.size := hB67.size
          have hwm : wm.heap.size ≤ w7.heap.size := hB7.size
          have hr := HR.out _ _ _ (((HW6.out.trans (hB67.mono (by omega))).setCell (p := ⟨w.heap.size + 1 + 1, 0, none⟩) (by show w.heap.size ≤ w.heap.size + 1 + 1; omega) (.slice p7 oc.length q7)).setCell (p := ⟨w.heap.size + 1 + 1, 1, none⟩) (by show w.heap.size ≤ w.heap.size + 1 + 1; omega) (.slice p8 ol.length q8)) (Sl.mono (Sl.agree hT7 Strs.loc (t2 _ _ (.inl (by omega)))) Strs.loc (by omega) (by have h1 : w9.heap.size ≤ wm.heap.size := hzi; have h2 : wm.heap.size ≤ w7.heap.size := hwm; have h3 := t3; omega)) (Sl.mono (Sl.agree hO7 rowE_loc (t2 _ _ (.inl (by omega)))) rowE_loc (by omega) (Nat.le_of_eq t3.symm))
          have Hr := Lib.hid hr
          have Ht := Lib.hid t1
          clear hr t1 t2 t3 hb7 hB67 hB7 hT7 hO7
          go_wp2_with fail
          exact ret_cell_tmp rfl rfl Ht.out rfl rfl Hr.out

end Go.Proofs.Ytpncblagjkbemaa
end

/- The document's Groups. (Printed by fldk.py.) -/
section
set_option linter.unusedVariables false
set_option linter.unusedSimpArgs false
namespace Go.Proofs.Ytpncblagjkbemaa
open Go.RowKit
set_option linter.unusedVariables false
set_option linter.unusedSimpArgs false
attribute [local go_sem ↓] Go.wp_at_zero Go.wp_at_succ
theorem QLs.lower {lo lo' : Nat} {W : World} {v : Value} {cols : List S} {rs : List (List (List V))} (h : QLs lo W v cols rs) (hl : lo' ≤ lo) : QLs lo' W v cols rs := by
  obtain ⟨hs, bs, h1, h2, ho, hp, hi⟩ := h
  exact ⟨hs, bs, h1, h2, Own.lower ho hl, hp, fun i q1 q2 q3 => ⟨Nat.le_trans hl (hi i q1 q2 q3).1, (hi i q1 q2 q3).2⟩⟩
set_option maxRecDepth 100000 in
set_option maxHeartbeats 8000000 in
theorem refGroups_any (lo hi lc hc l2 h2 : Nat) (rc : List S) (ac : Option Addr) (cc : Nat) (l : List (List V)) (lv : Value) (cols : List S) (cv : Value) (w : World) (hrc : Strs lc hc w (.slice ac rc.length cc) rc) (hhc : hc ≤ w.heap.size) (hv : Rws lo hi w lv l) (hhi : hi ≤ w.heap.size) (hcols : Strs l2 h2 w cv cols) (hh2 : h2 ≤ w.heap.size) (hrs : ∀ x ∈ l, ∀ a ∈ x, a.s.length ≤ 9223372036854775807) (R : Ending → World → Prop)
    (hR : ∀ w' v', Below w.heap.size w w' → QLs w.heap.size w' v' rc (okL (grpErr rc l cols) (grpL rc l cols)) → R (.returned (.tuple #[v', .int .i64 (grpErr rc l cols)])) w') :
    Calls Try.prog 54 #[.agg #[.slice ac rc.length cc, lv], cv] w R := by
  have HR := Lib.hid hR
  have Hv := Lib.hid hv
  have Hrc := Lib.hid hrc
  have Ho := Lib.hid hcols
  have Hrs := Lib.hid hrs
  obtain ⟨av, av2, rfl, -, -, -, -⟩ := hv.form
  obtain ⟨ak, ck, rfl, -, -, -, -⟩ := hcols.form
  have hol := hcols.len
  have hrl := hrc.len
  clear hR hv hrc hcols hrs
  have hB1 := alloc_below w (.cells #[.slice ac rc.length cc, .slice av l.length av2] 53)
  have hb1 := Blk.new w [.slice ac rc.length cc, .slice av l.length av2] 53 rfl
  go_enter Try.func54, Try.ntmps54
  go_upto_region 1 with fail
  generalize w.alloc (.cells #[.slice ac rc.length cc, .slice av l.length av2] 53) = w1 at *
  have HB1 := Lib.hid hB1
  have Hb1 := Lib.hid hb1
  have hz1 := hB1.size
  have hl1 := hb1.lt
  obtain ⟨c0, c1⟩ := hb1.cells.c2
  simp only [Nat.zero_add] at c1
  clear hB1 hb1
  go_wp2_with fail
  refine right16_any lo hi lc hc l2 h2 rc _ _ l _ cols _ w1 (Sl.below Hrc.out Strs.loc HB1.out hhc) (by omega) (Sl.below Hv.out rowE_loc HB1.out hhi) (by omega) (Sl.below Ho.out Strs.loc HB1.out hh2) (by omega) Hrs.out _ (fun w2 hB2 => ?_)
  have HB2 := Lib.hid (HB1.out.trans (hB2.mono hz1))
  have Hb2 := Lib.hid (Hb1.out.below hB2 hl1)
  have hz2 := hB2.size
  clear hB2 c0 c1
  cases hri : rightB rc l cols
  · have he : grpErr rc l cols = 2 := by unfold grpErr; rw [hri]; rfl
    have hr := HR.out w2 (.slice none 0 0) HB2.out (by rw [he, okL_no (by omega)]; exact QLs.nil _ _ _)
    rw [he] at hr
    clear he
    go_wp2_with fail
    first | exact hr | exact fin hr rfl
  have he : grpErr rc l cols = 0 := by unfold grpErr; rw [hri]; rfl
  rw [he, okL_ok rfl] at HR
  have Hri := Lib.hid hri
  have h3 := hri
  unfold rightB at h3
  simp only [Bool.and_eq_true] at h3
  obtain ⟨⟨hm, hw⟩, hon⟩ := h3
  have hml := (may_many hm).1
  have hcl := once_len hon
  have hpe : projErr rc l cols = 0 := by
    unfold projErr
    rw [hm, hw, hon]
    simp only [Bool.and_self, if_true]
    refine madeErr_ok hcl (Nat.le_trans (canon_len_le _) ?_)
    rw [List.length_map]
    exact hml
  have Hpe := Lib.hid hpe
  have Hm := Lib.hid hm
  have Hw := Lib.hid hw
  have Hon := Lib.hid hon
  obtain ⟨ks, hks⟩ : ∃ ks, ks = keysL (grpK rc cols) l := ⟨_, rfl⟩
  have Hks := Lib.hid hks
  have hkl : ks.length ≤ 100000 := by
    rw [hks]
    have : (keysL (grpK rc cols) l).length ≤ (l.map (grpK rc cols)).length := canon_len_le _
    rw [List.length_map] at this
    omega
  clear he hri hpe hm hw hon hks
  obtain ⟨c0, c1⟩ := Hb2.out.cells.c2
  simp only [Nat.zero_add] at c1
  go_wp2_with fail
  refine refProject_any lo hi lc hc l2 h2 rc _ _ l _ cols _ w2 (Sl.below Hrc.out Strs.loc HB2.out hhc) (by omega) (Sl.below Hv.out rowE_loc HB2.out hhi) (by omega) (Sl.below Ho.out Strs.loc HB2.out hh2) (by omega) (by omega) (by omega) Hrs.out _ (fun w3 cv3 lv3 hB3 hT3 hR3 => ?_)
  rw [Hpe.out, okL_ok rfl] at hT3 hR3
  rw [Hpe.out]
  have hR3' : Rws w2.heap.size w3.heap.size w3 lv3 ks := by rw [Hks.out]; exact hR3
  have HR3 := Lib.hid hR3'
  have HT3 := Lib.hid hT3
  obtain ⟨pc3, qc3, rfl, -, -, -, -⟩ := hT3.form
  obtain ⟨pl3, ql3, rfl, -, -, -, -⟩ := hR3'.form
  have hz3 := hB3.size
  have HB3 := Lib.hid (HB2.out.trans (hB3.mono (by omega)))
  have Hb3 := Lib.hid (Hb2.out.below hB3 (by omega))
  clear hB3 hT3 hR3 hR3' c0 c1
  go_upto_region 5 with fail
  have hBa := alloc_below w3 (.cells #[.slice pc3 cols.length qc3, .slice pl3 ks.length ql3] 53)
  have hba := Blk.new w3 [.slice pc3 cols.length qc3, .slice pl3 ks.length ql3] 53 rfl
  generalize w3.alloc (.cells #[.slice pc3 cols.length qc3, .slice pl3 ks.length ql3] 53) = w4 at *
  have hz4 := hBa.size
  have hl4 := hba.lt
  have HB4 := Lib.hid (HB3.out.trans (hBa.mono (by omega)))
  have Hb4 := Lib.hid (Hb3.out.below hBa (by omega))
  have Hk4 := Lib.hid hba
  have HR4 := Lib.hid (Sl.below HR3.out rowE_loc hBa (Nat.le_refl _))
  have Hkl : Hid (∀ x ∈ ks, x.length = cols.length) := Lib.hid (by rw [Hks.out]; exact keys_len)
  have Hksl : Hid (∀ x ∈ ks, ∀ a ∈ x, a.s.length ≤ 9223372036854775807) := Lib.hid (fun x hx a ha => by
    rw [Hks.out] at hx
    obtain ⟨y, hy, rfl⟩ := List.mem_map.1 ((canon_mem cmpR_cmp _ _).1 hx)
    obtain ⟨k, hk, rfl⟩ := List.mem_map.1 ha
    have hat := places_ok Hw.out k hk
    rw [← may_len Hm.out y hy] at hat
    rw [getDS y _ k.toNat (by omega)]
    exact Hrs.out y hy _ (List.getElem_mem _))
  clear hBa hba
  go_wp2_with fail
  go_loopw [9, 10] (fun t9 t10 wr => ∃ (k : Nat), k ≤ ks.length ∧ t10 = .int .i64 k ∧ QLs w4.heap.size wr t9 rc ((ks.take k).map (withK (grpK rc cols) l)) ∧ Below w4.heap.size w4 wr) (fun _ t10 _ => ks.length - (intOf t10).toNat)
  case atStart => exact ⟨0, Nat.zero_le _, rfl, by simpa using QLs.nil _ _ _, Below.refl _ _⟩
  case round =>
    obtain ⟨k, hk, rfl, hQ, hB⟩ := hrel
    obtain ⟨wo, ewo⟩ : ∃ x, x = wr := ⟨_, rfl⟩
    subst ewo
    have HQ := Lib.hid hQ
    have HB := Lib.hid hB
    have hz := hB.size
    have kk0 : (0 : Int) ≤ (k : Int) := by omega
    obtain ⟨po, qo, hpo⟩ := QLs.slice hQ
    have hbk := Hk4.out.below hB hl4
    obtain ⟨c0, c1⟩ := hbk.cells.c2
    simp only [Nat.zero_add] at c1
    clear hQ hB hbk
    by_cases hlt : k < ks.length
    · have kkl : (k : Int) < (ks.length : Int) := by omega
      obtain ⟨j, hj⟩ : ∃ j, j = k + 1 := ⟨_, rfl⟩
      have ej : IntKind.i64.wrap ((k : Int) + 1) = (j : Int) := (wrapOk (by omega) (by omega)).trans (by omega)
      have jj0 : (0 : Int) ≤ (j : Int) := by omega
      have HR5 := Lib.hid (Sl.below HR4.out rowE_loc HB.out (by omega))
      obtain ⟨vg, hvg, hrg⟩ := Sl.within HR5.out 32 Try.underlying32 size_RowH k j (by omega) (by omega)
      rw [show (ks.drop k).take (j - k) = [ks[k]] by rw [hj, show k + 1 - k = 1 by omega, ← List.getElem_cons_drop (h := hlt)]; rfl] at hrg
      obtain ⟨pg, qg, rfl, -, -, -, -⟩ := hrg.form
      have Hrg := Lib.hid hrg
      have Hj := Lib.hid hj
      clear hrg hj
      subst hpo
      have hnk2 : ((ks.take k).map (withK (grpK rc cols) l)).length ≤ 1000000 := by rw [List.length_map, List.length_take]; omega
      have Hnk2 := Lib.hid hnk2
      clear hnk2
      generalize hnk : ((ks.take k).map (withK (grpK rc cols) l)).length = nk at *
      have Hnk := Lib.hid hnk
      clear hnk
      go_upto_region 10 with fail
      have hBb := alloc_below wo (.cells #[.slice ak cols.length ck, .slice pg 1 qg] 53)
      have hbb := Blk.new wo [.slice ak cols.length ck, .slice pg 1 qg] 53 rfl
      generalize wo.alloc (.cells #[.slice ak cols.length ck, .slice pg 1 qg] 53) = wp at *
      have hzp := hBb.size
      have HBp := Lib.hid (HB.out.trans (hBb.mono hz))
      have HBw := Lib.hid (HB4.out.trans (HBp.out.mono HB4.out.size))
      have HBop := Lib.hid hBb
      have hz4w := HB4.out.size
      obtain ⟨e0, e1⟩ := (Hb4.out.below HBp.out (by omega)).cells.c2
      obtain ⟨d0, d1⟩ := hbb.cells.c2
      simp only [Nat.zero_add] at e1 d1
      clear hBb hbb c0 c1
      go_wp2_with fail
      refine refJoin_any lc hc lo hi l2 h2 w2.heap.size w3.heap.size rc cols _ _ _ _ l [ks[k]] _ _ wp (Sl.below Hrc.out Strs.loc HBw.out hhc) (by omega) (Sl.below Hv.out rowE_loc HBw.out hhi) (by omega) (Sl.below Ho.out Strs.loc HBw.out hh2) (by omega) (Sl.below Hrg.out rowE_loc HBop.out (by omega)) (by omega) Hrs.out (fun x hx => Hksl.out x (by rw [List.mem_singleton.1 hx]; exact List.getElem_mem hlt)) (by omega) (by simp) _ (fun w7 cv7 lv7 hB7 hT7 hR7 => ?_)
      have hkk : ks[k].length = cols.length := Hkl.out _ (List.getElem_mem hlt)
      rw [group_err Hri.out hkk, okL_ok rfl, group_cols Hw.out] at hT7
      rw [group_err Hri.out hkk, okL_ok rfl, group_join Hw.out Hon.out hkk, withK_up Hm.out] at hR7
      rw [group_err Hri.out hkk]
      have Hst : Hid ((ks.take (k + 1)).map (withK (grpK rc cols) l) = (ks.take k).map (withK (grpK rc cols) l) ++ [withK (grpK rc cols) l ks[k]]) := Lib.hid (by rw [List.take_succ_eq_append_getElem hlt, List.map_append]; rfl)
      clear hkk
      generalize withK (grpK rc cols) l ks[k] = tk at *
      obtain ⟨pf, qf, rfl, -, -, -, -⟩ := hT7.form
      obtain ⟨ph, qh, rfl, -, -, -, -⟩ := hR7.form
      have hz7 := hB7.size
      have hBx := alloc_below w7 (.cells #[.slice pf rc.length qf, .slice ph tk.length qh] 53)
      have hs1 : (w7.alloc (.cells #[.slice pf rc.length qf, .slice ph tk.length qh] 53)).heap.size = w7.heap.size + 1 := by simp
      have hBox := HBop.out.trans (hB7.mono (by omega))
      have hB9 := hBox.trans (hBx.mono (by omega))
      obtain ⟨v9, w9, hr9, hs9, ha9⟩ := QLs.snoc HQ.out hz hB9 ⟨⟨pf, rc.length, qf⟩, ⟨ph, tk.length, qh⟩⟩ (Sl.mono (Sl.below hT7 Strs.loc hBx (Nat.le_refl _)) Strs.loc hzp (by omega)) (Sl.mono (Sl.below hR7 rowE_loc hBx (Nat.le_refl _)) rowE_loc hzp (by omega)) (by rw [Hnk.out]; have := Hnk2.out; omega) hs1.symm
      have HQ9 := Lib.hid hs9
      have HB9 := Lib.hid ((HB.out.trans (hB9.mono hz)).trans (ha9.below (B := w4.heap.size) (by have := hB9.size; omega) (fun q e => (QLs.lt HQ.out q e).1)))
      clear hs9 ha9 hB9 hBox hBx hT7 hR7 e0 e1 d0 d1
      go_wp2_with (at_builtin; refine AtApp.of ?_)
      refine AtApp.go hr9 rfl rfl rfl rfl ?_
      go_wp2_with fail
      go_roundw
      case rel => exact ⟨j, by have := Hj.out; omega, by first | rfl | go_num, by rw [Hj.out, Hst.out]; exact HQ9.out, HB9.out⟩
      case measure => have := Hj.out; simp [intOf]; omega
    · obtain rfl : k = ks.length := by omega
      have hQ := HQ.out
      rw [List.take_length, Hks.out] at hQ
      have hr := HR.out wo _ (HB4.out.trans (HB.out.mono HB4.out.size)) (QLs.lower hQ HB4.out.size)
      clear hQ
      subst hpo
      go_wp2_with fail
      first | exact hr | exact fin hr rfl
end Go.Proofs.Ytpncblagjkbemaa
end

/- The law of layer 16: a relation's own copy, and the document's relation of the program's. (Printed by r16.py.) -/
section
set_option linter.unusedVariables false
set_option linter.unusedSimpArgs false
namespace Go.Proofs.Ytpncblagjkbemaa
open Go.RowKit
set_option linter.unusedVariables false
set_option linter.unusedSimpArgs false
set_option maxRecDepth 100000 in
set_option maxHeartbeats 4000000 in
theorem lawOwn16_any (lo hi lc hc : Nat) (cols : List S) (ac : Option Addr) (cc : Nat) (l : List (List V)) (lv : Value) (w : World) (hcols : Strs lc hc w (.slice ac cols.length cc) cols) (hhc : hc ≤ w.heap.size) (hv : Rws lo hi w lv l) (hhi : hi ≤ w.heap.size) (hlen : l.length ≤ 1000000000000) (hcl : cols.length ≤ 1000000000000) (hrl : ∀ x ∈ l, x.length ≤ 1000000000000) (R : Ending → World → Prop)
    (hR : ∀ w' cv2 lv2, Below w.heap.size w w' → Strs w.heap.size w'.heap.size w' cv2 cols → Rws w.heap.size w'.heap.size w' lv2 l → R (.returned (.agg #[cv2, lv2])) w') :
    Calls Try.prog 53 #[.agg #[.slice ac cols.length cc, lv]] w R := by
  have HR := Lib.hid hR
  have Hv := Lib.hid hv
  have Hc := Lib.hid hcols
  have Hrl := Lib.hid hrl
  obtain ⟨av, cv, rfl, -, -, -, -⟩ := hv.form
  clear hR hv hcols hrl
  obtain ⟨q, hq⟩ : ∃ q, q = cols.length := ⟨_, rfl⟩
  rw [← hq]
  have Hq := Lib.hid hq
  clear hq
  go_enter Try.func53, Try.ntmps53
  go_upto_region 2 with fail
  obtain ⟨w0, hw0⟩ : ∃ w0, w0 = ((w.alloc (.cells #[.slice ac q cc, .slice av l.length cv] 34)).alloc (.cells #[.slice none 0 0, .slice none 0 0] 34)).alloc (.cells #[.slice none 0 0, .slice none 0 0] 34) := ⟨_, rfl⟩
  have s1 : (w.alloc (.cells #[.slice ac q cc, .slice av l.length cv] 34)).heap.size = w.heap.size + 1 := Array.size_push _
  have s2 : ((w.alloc (.cells #[.slice ac q cc, .slice av l.length cv] 34)).alloc (.cells #[.slice none 0 0, .slice none 0 0] 34)).heap.size = w.heap.size + 1 + 1 := (Array.size_push _).trans (by rw [s1])
  have hB0 : Below w.heap.size w w0 := by
    rw [hw0]
    exact ((alloc_below w _).alloc (by rw [s1]; omega) _).alloc (by rw [s2]; omega) _
  have hz0 : w.heap.size + 1 + 1 < w0.heap.size := by
    rw [hw0]
    show _ < (Array.push _ _).size
    rw [Array.size_push, s2]; omega
  have hb0 : Blk w0 w.heap.size [.slice ac q cc, .slice av l.length cv] 34 := by
    rw [hw0]
    exact ((Blk.new w [.slice ac q cc, .slice av l.length cv] _ rfl).alloc _).alloc _
  have hb1 : Blk w0 (w.heap.size + 1) [.slice none 0 0, .slice none 0 0] 34 := by
    rw [hw0]
    exact (Blk.new _ [.slice none 0 0, .slice none 0 0] _ s1.symm).alloc _
  have hb2 : Blk w0 (w.heap.size + 1 + 1) [.slice none 0 0, .slice none 0 0] 34 := by
    rw [hw0]
    exact Blk.new _ [.slice none 0 0, .slice none 0 0] _ s2.symm
  rw [← hw0]
  clear hw0 s1 s2
  have Hb0 := Lib.hid hb0
  have Hb1 := Lib.hid hb1
  have Hb2 := Lib.hid hb2
  have HB0 := Lib.hid hB0
  obtain ⟨d0, d1⟩ := hb0.cells.c2
  simp only [Nat.zero_add] at d1
  obtain ⟨e0, e1⟩ := hb2.cells.c2
  simp only [Nat.zero_add] at e1
  have f0 := hb2.free 0
  have f1 := hb2.free 1
  obtain ⟨v1, w1, hr1, ho1, ha1⟩ := appTL (lo := w0.heap.size) (Own.nil _ _ _ _ w0) (Sl.below Hc.out Strs.loc hB0 hhc) (by simp only [List.length_nil]; omega) (Nat.le_refl _)
  rw [List.nil_append] at ho1
  have hB1 : Below w0.heap.size w0 w1 := ha1.below (Nat.le_refl _) (fun k e => by cases e)
  have hc2 := Hb2.out.below hB1 hz0
  obtain ⟨p1, c1, ev1⟩ := Own.slice ho1
  rw [← Hq.out] at ev1
  subst ev1
  have Ho1 := Lib.hid ho1
  have HB1 := Lib.hid hB1
  have Hc2 := Lib.hid hc2
  have g0 := hc2.free 0
  obtain ⟨j0, j1⟩ := hc2.cells.c2
  simp only [Nat.zero_add] at j1
  rw [← Hq.out] at hr1
  have h2b : Blk (w1.setCell ⟨w.heap.size + 1 + 1, 0, none⟩ (.slice p1 q c1)) (w.heap.size + 1 + 1) [.slice p1 q c1, .slice none 0 0] 34 := hc2.set 0 _
  have h2o : OwnT w0.heap.size (w1.setCell ⟨w.heap.size + 1 + 1, 0, none⟩ (.slice p1 q c1)) (.slice p1 q c1) cols := Own.setOther ho1 (fun e => by
    have := (Own.lt ho1 _ e).1
    simp only at this
    omega) _
  have h2B : Below (w.heap.size + 1 + 1) w0 (w1.setCell ⟨w.heap.size + 1 + 1, 0, none⟩ (.slice p1 q c1)) := (hB1.mono (by show w.heap.size + 1 + 1 ≤ _; omega)).setCell (p := ⟨w.heap.size + 1 + 1, 0, none⟩) (Nat.le_refl _) _
  have H2b := Lib.hid h2b
  have H2o := Lib.hid h2o
  have H2B := Lib.hid h2B
  have hb0c := Hb0.out.below h2B (by omega)
  obtain ⟨d0', d1'⟩ := hb0c.cells.c2
  simp only [Nat.zero_add] at d1'
  clear hb0 hb1 hb2 hB0 ho1 ha1 hB1 hc2 h2b h2o h2B hb0c
  go_wp2_with (at_builtin; refine AtApp.of ?_)
  refine AtApp.go hr1 rfl rfl rfl rfl ?_
  go_upto_region 3 with fail
  generalize w1.setCell ⟨w.heap.size + 1 + 1, 0, none⟩ (.slice p1 q c1) = w2 at *
  clear d0 d1 e0 e1 f0 f1 g0 hr1 j0 j1
  go_wp2_with fail
  go_loopw [15] (fun t15 wr => ∃ (k : Nat) (hs : List Value) (vk : Value), k ≤ l.length ∧ t15 = .int .i64 k ∧ Blk wr (w.heap.size + 1 + 1) [.slice p1 q c1, vk] 34 ∧ OwnT w0.heap.size wr (.slice p1 q c1) cols ∧ OwnR w0.heap.size wr vk hs (l.take k) ∧ Below (w.heap.size + 1 + 1) w0 wr ∧ w0.heap.size ≤ wr.heap.size) (fun t15 _ => l.length - (intOf t15).toNat)
  case atStart => exact ⟨0, [], _, Nat.zero_le _, rfl, H2b.out, H2o.out, OwnR.nil _ _, H2B.out, H2B.out.size⟩
  case round =>
    obtain ⟨k, hs, vk, hk, rfl, hbk, hok, hrk, hB, hz⟩ := hrel
    obtain ⟨wo, ewo⟩ : ∃ x, x = wr := ⟨_, rfl⟩
    subst ewo
    have Hbk := Lib.hid hbk
    have Hok := Lib.hid hok
    have Hrk := Lib.hid hrk
    have HB := Lib.hid hB
    have kk0 : (0 : Int) ≤ (k : Int) := by omega
    have HBw := Lib.hid (HB0.out.trans (hB.mono (by omega)))
    obtain ⟨po, co, epo⟩ := Own.slice hrk.own
    subst epo
    have hb0c := Hb0.out.below hB (by omega)
    have hb2l := hbk.lt
    obtain ⟨d0, d1⟩ := hb0c.cells.c2
    simp only [Nat.zero_add] at d1
    clear hbk hok hrk hB hb0c
    by_cases hlt : k < l.length
    · obtain ⟨ao', cap', e', -, -, -, hc⟩ := (Sl.below Hv.out rowE_loc HBw.out hhi).form
      injection e' with e1 e2 e3
      subst e1 e3
      obtain ⟨b, off, rfl, hb1, hb2, hcc⟩ := hc k hlt
      obtain ⟨cs, _, hcs, sv, rfl, hsv⟩ := hcc k hlt
      have g0 := hcs.c1
      rw [Nat.mul_one] at g0
      have kkl : (k : Int) < (l.length : Int) := by omega
      have hsl : hs.length ≤ k := by
        rw [Hrk.out.len, List.length_take]; omega
      have Hst : Hid (l.take (k + 1) = l.take k ++ [l[k]]) := Lib.hid (List.take_succ_eq_append_getElem hlt)
      have hxl := Hrl.out _ (List.getElem_mem hlt)
      have hslv := hsv
      obtain ⟨ay, cy, rfl, -, -, -, -⟩ := hslv.form
      clear hcc hcs hc hslv
      generalize l[k] = x at *
      obtain ⟨v2, w2', hr2, ho2, ha2⟩ := appVL (lo := wo.heap.size) (Own.nil _ _ _ _ wo) hsv (by simp only [List.length_nil]; omega) (Nat.le_refl _)
      rw [List.nil_append] at ho2
      have hB2 : Below wo.heap.size wo w2' := ha2.below (Nat.le_refl _) (fun k e => by cases e)
      have hzw2 := hB2.size
      have hbk2 := Hbk.out.below hB2 hb2l
      have hrk2 := Hrk.out.kept hB2
      have hok2 := Own.kept Hok.out hB2
      obtain ⟨p2, c2, ev2⟩ := Own.slice ho2
      subst ev2
      obtain ⟨v3, w3, hr3, ho3, ha3⟩ := appH1 hrk2.own p2 x.length c2 rfl (by omega) (by omega)
      have hya : ∀ q, (Value.slice p2 x.length c2).ownBlock = some q → (Value.slice po hs.length co).ownBlock ≠ some q := fun q hq2 e => by
        have h1 := (Own.lt ho2 q hq2).1
        have h2 := (Own.lt Hrk.out.own q e).2
        omega
      have hrk3 := hrk2.snoc (Own.lower ho2 hz) hya ho3 ha3
      rw [← Hst.out] at hrk3
      have hbk3 := ha3.blk hbk2 (Own.ne_blk hrk2.own hbk2 (by decide))
      have hok3 : OwnT w0.heap.size w3 (.slice p1 q c1) cols := Own.same hok2 (fun g hg => ha3.grown.block g (Own.lt hok2 g hg).2 (fun e => Own.apartT hok2 hrk2.own (by decide) hg e.symm))
      have hB3 : Below (w.heap.size + 1 + 1) w0 w3 := (HB.out.trans (hB2.mono (by omega))).trans (ha3.below (by omega) (fun q e => by have := (Own.lt hrk2.own q e).1; omega))
      have hzw3 := hB3.size
      obtain ⟨p3, c3, ev3⟩ := Own.slice ho3
      have el : (hs ++ [Value.slice p2 x.length c2]).length = hs.length + 1 := by simp
      rw [el] at ev3
      subst ev3
      have f1 := hbk3.free 1
      obtain ⟨i0, i1⟩ := hbk2.cells.c2
      simp only [Nat.zero_add] at i1
      obtain ⟨m0, m1⟩ := hbk3.cells.c2
      simp only [Nat.zero_add] at m1
      have hbk4 : Blk (w3.setCell ⟨w.heap.size + 1 + 1, 1, none⟩ (.slice p3 (hs.length + 1) c3)) (w.heap.size + 1 + 1) [.slice p1 q c1, .slice p3 (hs.length + 1) c3] 34 := hbk3.set 1 _
      have hok4 : OwnT w0.heap.size (w3.setCell ⟨w.heap.size + 1 + 1, 1, none⟩ (.slice p3 (hs.length + 1) c3)) (.slice p1 q c1) cols := Own.setOther hok3 (Own.ne_blk hok3 hbk3 (by decide)) _
      have hrk4 := hrk3.setBlk hbk3 (by decide) (by decide) 1 (.slice p3 (hs.length + 1) c3)
      have hB4 := hB3.setCell (p := ⟨w.heap.size + 1 + 1, 1, none⟩) (Nat.le_refl _) (.slice p3 (hs.length + 1) c3)
      have Hbk4 := Lib.hid hbk4
      have Hok4 := Lib.hid hok4
      have Hrk4 := Lib.hid hrk4
      have HB4 := Lib.hid hB4
      clear ho2 ha2 hB2 hbk2 hrk2 hok2 ho3 ha3 hya hrk3 hbk3 hok3 hB3 hbk4 hok4 hrk4 hB4 hsv
      go_wp2_with (at_builtin; refine AtApp.of ?_)
      refine AtApp.go hr2 rfl rfl rfl rfl ?_
      go_wp2_with (at_builtin; refine AtApp.of ?_)
      refine AtApp.go hr3 rfl rfl rfl rfl ?_
      go_wp2_with fail
      go_roundw
      case rel => exact ⟨k + 1, _, _, by omega, by go_num, Hbk4.out, Hok4.out, Hrk4.out, HB4.out, HB4.out.size⟩
      case measure => simp [intOf]; omega
    · obtain rfl : k = l.length := by omega
      have llt : ¬ ((l.length : Nat) : Int) < (l.length : Int) := by omega
      have hb1 := Hb1.out.below HB.out (by omega)
      have hrk := Hrk.out
      rw [List.take_length] at hrk
      have hsl : hs.length = l.length := hrk.len
      rw [hsl] at hrk
      have hb2c := Hbk.out
      rw [hsl] at hb2c
      obtain ⟨k0, k1⟩ := hb1.cells.c2
      simp only [Nat.zero_add] at k1
      have f0 := hb1.free 0
      have f1 := hb1.free 1
      have Hld := Lib.hid (hb2c.cells.runVar (P := Try.prog) (t := 34) (fun _ => by kernel_rfl) (fun _ => by kernel_rfl))
      obtain ⟨i0, i1⟩ := hb2c.cells.c2
      simp only [Nat.zero_add] at i1
      have hb1' := hb1.set 0 (.slice p1 q c1)
      have Hrv := Lib.hid ((hb1'.set 1 (.slice po l.length co)).cells.runVar (P := Try.prog) (t := 34) (fun _ => by kernel_rfl) (fun _ => by kernel_rfl))
      have hB5 := (HBw.out.setCell (p := ⟨w.heap.size + 1, 0, none⟩) (Nat.le_succ _) (.slice p1 q c1)).setCell (p := ⟨w.heap.size + 1, 1, none⟩) (Nat.le_succ _) (.slice po l.length co)
      have hok5 : OwnT w0.heap.size ((wo.setCell ⟨w.heap.size + 1, 0, none⟩ (.slice p1 q c1)).setCell ⟨w.heap.size + 1, 1, none⟩ (.slice po l.length co)) (.slice p1 q c1) cols := by
        have h1 := Own.setOther Hok.out (Own.ne_blk Hok.out hb1 (by decide)) (p := ⟨w.heap.size + 1, 0, none⟩) (.slice p1 q c1)
        exact Own.setOther h1 (Own.ne_blk h1 hb1' (by decide)) _
      have hrk5 := (hrk.setBlk hb1 (by decide) (by decide) 0 (.slice p1 q c1)).setBlk hb1' (by decide) (by decide) 1 (.slice po l.length co)
      have Hr := Lib.hid (HR.out _ _ _ hB5 ((OwnT.sl hok5).mono Strs.loc (by omega) (Nat.le_refl _)) ((OwnR.rws hrk5).mono rowE_loc (by omega) (Nat.le_refl _)))
      clear hb1 hrk hsl hb2c hb1' hB5 hok5 hrk5
      go_wp2_with fail
      exact ret_cell rfl rfl Hrv.out rfl Hr.out
set_option maxRecDepth 100000 in
set_option maxHeartbeats 4000000 in
theorem ref16_any (ac av : Option Addr) (nc cc nv cv : Nat) (w : World) (R : Ending → World → Prop)
    (hR : ∀ w', Below w.heap.size w w' → R (.returned (.agg #[.slice ac nc cc, .slice av nv cv])) w') :
    Calls Try.prog 55 #[.agg #[.slice ac nc cc, .slice av nv cv]] w R := by
  have HR := Lib.hid hR
  clear hR
  have hB0 := alloc_below w (.cells #[.slice ac nc cc, .slice av nv cv] 34)
  have hb0 := Blk.new w [.slice ac nc cc, .slice av nv cv] 34 rfl
  go_enter Try.func55, Try.ntmps55
  go_upto_region 1 with fail
  have hB1 := hB0.alloc hB0.size (.cells #[.slice none 0 0, .slice none 0 0] 53)
  have hb1 : Blk _ (w.heap.size + 1) [.slice none 0 0, .slice none 0 0] 53 := Blk.new (w.alloc (.cells #[.slice ac nc cc, .slice av nv cv] 34)) [.slice none 0 0, .slice none 0 0] 53 (by show _ = (w.heap.push _).size; rw [Array.size_push])
  have hc0 := hb0.alloc (.cells #[.slice none 0 0, .slice none 0 0] 53)
  generalize (w.alloc (.cells #[.slice ac nc cc, .slice av nv cv] 34)).alloc (.cells #[.slice none 0 0, .slice none 0 0] 53) = w1 at *
  obtain ⟨d0, d1⟩ := hc0.cells.c2
  simp only [Nat.zero_add] at d1
  obtain ⟨e0, e1⟩ := hb1.cells.c2
  simp only [Nat.zero_add] at e1
  have f0 := hb1.free 0
  have f1 := hb1.free 1
  have Hrv := Lib.hid (((hb1.set 0 (.slice ac nc cc)).set 1 (.slice av nv cv)).cells.runVar (P := Try.prog) (t := 53) (fun _ => by kernel_rfl) (fun _ => by kernel_rfl))
  have Hr := Lib.hid (HR.out _ ((hB1.setCell (p := ⟨w.heap.size + 1, 0, none⟩) (Nat.le_succ _) (.slice ac nc cc)).setCell (p := ⟨w.heap.size + 1, 1, none⟩) (Nat.le_succ _) (.slice av nv cv)))
  clear hb0 hB0 hB1 hb1 hc0
  go_wp2_with fail
  exact ret_cell rfl rfl Hrv.out rfl Hr.out
end Go.Proofs.Ytpncblagjkbemaa
end

/- The law of layer 16: same, on relations alike. (Printed by r16.py.) -/
section
set_option linter.unusedVariables false
set_option linter.unusedSimpArgs false
namespace Go.Proofs.Ytpncblagjkbemaa
open Go.RowKit
set_option linter.unusedVariables false
set_option linter.unusedSimpArgs false
set_option maxRecDepth 100000 in
set_option maxHeartbeats 4000000 in
theorem lawSame16_any (lo hi lo2 hi2 lc hc lc2 hc2 : Nat) (cols : List S) (l : List (List V)) (ca cb la lb : Value) (w : World) (hca : Strs lc hc w ca cols) (hcb : Strs lc2 hc2 w cb cols) (hla : Rws lo hi w la l) (hlb : Rws lo2 hi2 w lb l) (h1 : hc ≤ w.heap.size) (h2 : hc2 ≤ w.heap.size) (h3 : hi ≤ w.heap.size) (h4 : hi2 ≤ w.heap.size) (hrs : ∀ x ∈ l, ∀ a ∈ x, a.s.length ≤ 9223372036854775807) (R : Ending → World → Prop)
    (hR : ∀ w', Below w.heap.size w w' → R (.returned (.bool true)) w') : Calls Try.prog 20 #[.agg #[ca, la], .agg #[cb, lb]] w R := by
  have HR := Lib.hid hR
  have HCa := Lib.hid hca
  have HCb := Lib.hid hcb
  have HLa := Lib.hid hla
  have HLb := Lib.hid hlb
  have Hrs := Lib.hid hrs
  obtain ⟨aca, cca, rfl, -, -, -, -⟩ := hca.form
  obtain ⟨acb, ccb, rfl, -, -, -, -⟩ := hcb.form
  obtain ⟨ala, cla, rfl, -, -, -, -⟩ := hla.form
  obtain ⟨alb, clb, rfl, -, -, -, -⟩ := hlb.form
  clear hR hca hcb hla hlb hrs
  go_enter Try.func20, Try.ntmps20
  go_upto_region 1 with fail
  obtain ⟨w0, hw0⟩ : ∃ w0, w0 = (w.alloc (.cells #[.slice aca cols.length cca, .slice ala l.length cla] 34)).alloc (.cells #[.slice acb cols.length ccb, .slice alb l.length clb] 34) := ⟨_, rfl⟩
  have s1 : (w.alloc (.cells #[.slice aca cols.length cca, .slice ala l.length cla] 34)).heap.size = w.heap.size + 1 := Array.size_push _
  have hB0 : Below w.heap.size w w0 := by
    rw [hw0]
    exact (alloc_below w _).alloc (by rw [s1]; omega) _
  have hz0 : w.heap.size + 1 < w0.heap.size := by
    rw [hw0]
    show _ < (Array.push _ _).size
    rw [Array.size_push, s1]; omega
  have hb1 : Blk w0 w.heap.size [.slice aca cols.length cca, .slice ala l.length cla] 34 := by
    rw [hw0]
    exact (Blk.new w [.slice aca cols.length cca, .slice ala l.length cla] _ rfl).alloc _
  have hb2 : Blk w0 (w.heap.size + 1) [.slice acb cols.length ccb, .slice alb l.length clb] 34 := by
    rw [hw0]
    exact Blk.new _ [.slice acb cols.length ccb, .slice alb l.length clb] _ s1.symm
  rw [← hw0]
  clear hw0 s1
  have HB0 := Lib.hid hB0
  have HA := Lib.hid hb1
  have HBb := Lib.hid hb2
  have hb1l : w.heap.size < w0.heap.size := by omega
  clear hB0 hb1 hb2
  have hS0 : Below w0.heap.size w0 w0.drew := (Below.refl _ _).drew
  refine wp_region_held_drew (S := fun w' => Below w0.heap.size w0 w') (by kernel_rfl) hS0 (fun hHeld => ?_)
  refine wpAnyH_take (i := 0) (v := .agg #[.slice aca cols.length cca, .slice ala l.length cla]) rfl (by kernel_rfl) (by kernel_rfl) (by kernel_rfl) (fun _ _ _ h => h) (Or.inl ⟨by rfl, ?_⟩) hHeld ?_
  · intro w' hSw; have kx := (HA.out.below hSw hb1l).cells.runVar (P := Try.prog) (t := 34) (fun _ => by kernel_rfl) (fun _ => by kernel_rfl); obtain ⟨z0, z1⟩ := (HA.out.below hSw hb1l).cells.c2; simp only [Nat.zero_add] at z1; go_simp
  try simp only [Act.put, List.getElem_toArray, List.getElem_cons_succ, List.getElem_cons_zero, List.setIfInBounds_toArray, List.set_cons_zero, List.set_cons_succ]
  refine wpAnyH_take (i := 2) (v := .agg #[.slice acb cols.length ccb, .slice alb l.length clb]) rfl (by kernel_rfl) (by kernel_rfl) (by kernel_rfl) (fun _ _ _ h => h) (Or.inl ⟨by rfl, ?_⟩) hHeld ?_
  · intro w' hSw; have kx := (HBb.out.below hSw hz0).cells.runVar (P := Try.prog) (t := 34) (fun _ => by kernel_rfl) (fun _ => by kernel_rfl); obtain ⟨z0, z1⟩ := (HBb.out.below hSw hz0).cells.c2; simp only [Nat.zero_add] at z1; go_simp
  try simp only [Act.put, List.getElem_toArray, List.getElem_cons_succ, List.getElem_cons_zero, List.setIfInBounds_toArray, List.set_cons_zero, List.set_cons_succ]
  refine wpAnyH_ready (rs := [1]) (by kernel_rfl) (by simp) ?_
  refine allCall (f := 55) (args := #[.agg #[.slice aca cols.length cca, .slice ala l.length cla]]) rfl (by kernel_rfl) (by kernel_rfl) ?_ AllReadyH.nil
  refine ref16_any _ _ _ _ _ _ w0.drew _ (fun wq1 hB => ?_)
  refine ⟨_, rfl, hHeld.trans (hB.mono hHeld.size), ?_⟩
  have hHeld2 := hHeld.trans (hB.mono hHeld.size)
  clear hHeld
  have hHeld := hHeld2
  clear hHeld2
  clear hB
  try simp only [Act.put, List.getElem_toArray, List.getElem_cons_succ, List.getElem_cons_zero, List.setIfInBounds_toArray, List.set_cons_zero, List.set_cons_succ]
  refine wpAnyH_ready (rs := [3]) (by kernel_rfl) (by simp) ?_
  refine allCall (f := 55) (args := #[.agg #[.slice acb cols.length ccb, .slice alb l.length clb]]) rfl (by kernel_rfl) (by kernel_rfl) ?_ AllReadyH.nil
  refine ref16_any _ _ _ _ _ _ wq1 _ (fun wq2 hB => ?_)
  refine ⟨_, rfl, hHeld.trans (hB.mono hHeld.size), ?_⟩
  have hHeld2 := hHeld.trans (hB.mono hHeld.size)
  clear hHeld
  have hHeld := hHeld2
  clear hHeld2
  clear hB
  try simp only [Act.put, List.getElem_toArray, List.getElem_cons_succ, List.getElem_cons_zero, List.setIfInBounds_toArray, List.set_cons_zero, List.set_cons_succ]
  refine wpAnyH_ready (rs := [4]) (by kernel_rfl) (by simp) ?_
  refine allCall (f := 56) (args := #[.agg #[.slice aca cols.length cca, .slice ala l.length cla], .agg #[.slice acb cols.length ccb, .slice alb l.length clb]]) rfl (by kernel_rfl) (by kernel_rfl) ?_ AllReadyH.nil
  refine Same_any lo hi lo2 hi2 lc hc lc2 hc2 cols l _ _ _ _ wq2 (Sl.below HCa.out Strs.loc (HB0.out.trans (hHeld.mono (by omega))) h1) (Sl.below HCb.out Strs.loc (HB0.out.trans (hHeld.mono (by omega))) h2) (Sl.below HLa.out rowE_loc (HB0.out.trans (hHeld.mono (by omega))) h3) (Sl.below HLb.out rowE_loc (HB0.out.trans (hHeld.mono (by omega))) h4) (by have := hHeld.size; omega) (by have := hHeld.size; omega) (by have := hHeld.size; omega) (by have := hHeld.size; omega) Hrs.out _ (fun wq3 hB => ?_)
  refine ⟨_, rfl, hHeld.trans (hB.mono hHeld.size), ?_⟩
  have hHeld2 := hHeld.trans (hB.mono hHeld.size)
  clear hHeld
  have hHeld := hHeld2
  clear hHeld2
  clear hB
  try simp only [Act.put, List.getElem_toArray, List.getElem_cons_succ, List.getElem_cons_zero, List.setIfInBounds_toArray, List.set_cons_zero, List.set_cons_succ]
  refine wpAnyH_take (i := 5) (v := .bool true) rfl (by kernel_rfl) (by kernel_rfl) (by kernel_rfl) (fun _ _ _ h => h) (Or.inl ⟨by rfl, ?_⟩) hHeld ?_
  · intro w' hSw; go_simp
  try simp only [Act.put, List.getElem_toArray, List.getElem_cons_succ, List.getElem_cons_zero, List.setIfInBounds_toArray, List.set_cons_zero, List.set_cons_succ]
  have HH2 := Lib.hid hHeld
  refine wpAnyH_done (by kernel_rfl) ?_ _
  clear hHeld
  have hr := HR.out _ (HB0.out.trans (HH2.out.mono (by omega)))
  go_wp2_with fail
  first | exact hr | exact fin hr rfl
end Go.Proofs.Ytpncblagjkbemaa
end

/- The law FoldGroups, walked. (Printed by fldn.py.) -/
section
set_option linter.unusedVariables false
set_option linter.unusedSimpArgs false
namespace Go.Proofs.Ytpncblagjkbemaa
open Go.RowKit
set_option linter.unusedVariables false
set_option linter.unusedSimpArgs false
attribute [local go_sem ↓] Go.wp_at_zero Go.wp_at_succ
def great16B (cols : List S) (l : List (List V)) (nb : Nat) : Bool := decide (40 < cols.length) || decide (100 < l.length) || decide (40 < nb) || l.any fun x => decide (40 < x.length)
theorem great16_no {cols : List S} {l : List (List V)} {nb : Nat} (h : great16B cols l nb = false) : cols.length ≤ 40 ∧ l.length ≤ 100 ∧ nb ≤ 40 ∧ ∀ x ∈ l, x.length ≤ 40 := by
  unfold great16B at h
  simp only [Bool.or_eq_false_iff, decide_eq_false_iff_not, List.any_eq_false, decide_eq_true_eq] at h
  exact ⟨by omega, by omega, by omega, fun x hx => by have := h.2 x hx; omega⟩
set_option maxRecDepth 100000 in
set_option maxHeartbeats 4000000 in
theorem great16_any (lo hi : Nat) (cols : List S) (ac : Option Addr) (cc : Nat) (l : List (List V)) (lv : Value) (ak : Option Addr) (nb ck : Nat) (w : World) (hv : Rws lo hi w lv l) (hhi : hi ≤ w.heap.size) (hcl : cols.length ≤ 9223372036854775807) (hnb : nb ≤ 9223372036854775807) (R : Ending → World → Prop)
    (hR : ∀ w', Below w.heap.size w w' → R (.returned (.bool (great16B cols l nb))) w') :
    Calls Try.prog 52 #[.agg #[.slice ac cols.length cc, lv], .slice ak nb ck] w R := by
  have HR := Lib.hid hR
  have Hv := Lib.hid hv
  obtain ⟨av, cv, rfl, -, hcm, -, -⟩ := hv.form
  clear hR hv
  have hll := Hv.out.len
  obtain ⟨q, hq⟩ : ∃ q, q = cols.length := ⟨_, rfl⟩
  rw [← hq] at hcl ⊢
  have Hq := Lib.hid hq
  clear hq
  go_enter Try.func52, Try.ntmps52
  go_upto_region 1 with fail
  have hBa := alloc_below w (.cells #[.slice ac q cc, .slice av l.length cv] 34)
  have hba := Blk.new w [.slice ac q cc, .slice av l.length cv] 34 rfl
  generalize w.alloc (.cells #[.slice ac q cc, .slice av l.length cv] 34) = w1 at *
  have HB := Lib.hid hBa
  have Hv1 := Lib.hid (Sl.below Hv.out rowE_loc hBa hhi)
  obtain ⟨av', cv', e', -, -, -, hc⟩ := Hv1.out.form
  injection e' with e1 e2 e3
  subst e1 e3
  have Hc := Lib.hid hc
  obtain ⟨c0, c1⟩ := hba.cells.c2
  simp only [Nat.zero_add] at c1
  clear hc hBa hba e2
  by_cases h1 : 40 < q
  · have c1 : (40 : Int) < (q : Int) := by omega
    have hr := HR.out _ HB.out
    have e : great16B cols l nb = true := by unfold great16B; rw [decide_eq_true (by rw [← Hq.out]; exact h1)]; rfl
    rw [e] at hr
    clear e
    go_wp2_with fail
    first | exact hr | exact fin hr rfl
  · have c2 : ¬ (40 : Int) < (q : Int) := by omega
    by_cases h2 : 100 < l.length
    · have c3 : (100 : Int) < (l.length : Int) := by omega
      have hr := HR.out _ HB.out
      have e : great16B cols l nb = true := by unfold great16B; rw [decide_eq_true h2]; simp
      rw [e] at hr
      clear e
      go_wp2_with fail
      first | exact hr | exact fin hr rfl
    · have c3 : ¬ (100 : Int) < (l.length : Int) := by omega
      by_cases h3 : 40 < nb
      · have c4 : (40 : Int) < (nb : Int) := by omega
        have hr := HR.out _ HB.out
        have e : great16B cols l nb = true := by unfold great16B; rw [decide_eq_true h3]; simp
        rw [e] at hr
        clear e
        go_wp2_with fail
        first | exact hr | exact fin hr rfl
      have c4 : ¬ (40 : Int) < (nb : Int) := by omega
      have Hcl : Hid (decide (40 < cols.length) = false) := Lib.hid (decide_eq_false (by rw [← Hq.out]; exact h1))
      clear h1
      go_wp2_with fail
      go_loop [24] (fun t24 => ∃ k : Nat, k ≤ l.length ∧ t24 = .int .i64 k ∧ ∀ i, i < k → (l.getD i []).length ≤ 40) (fun t24 => l.length - (intOf t24).toNat)
      case atStart => exact ⟨0, Nat.zero_le _, rfl, fun i h => absurd h (Nat.not_lt_zero _)⟩
      case round =>
        obtain ⟨k, hk, rfl, hno⟩ := hrel
        have Hno := Lib.hid hno
        clear hno
        have kk0 : (0 : Int) ≤ (k : Int) := by omega
        by_cases hlt : k < l.length
        · obtain ⟨b, off, rfl, hb1, hb2, hcc⟩ := Hc.out k hlt
          obtain ⟨cs, _, hcs, sv, rfl, hsv⟩ := hcc k hlt
          have g0 := hcs.c1
          rw [Nat.mul_one] at g0
          have kkl : (k : Int) < (l.length : Int) := by omega
          have Hx : Hid (l.getD k [] = l[k]) := Lib.hid (getDS l _ k hlt)
          have Hbadk : Hid (40 < l[k].length → great16B cols l nb = true) := Lib.hid (fun h => by
            have : (l.any fun x => decide (40 < x.length)) = true := by
              rw [List.any_eq_true]
              exact ⟨l[k], List.getElem_mem hlt, by simpa using h⟩
            unfold great16B
            rw [this]; simp)
          obtain ⟨ay, cy, rfl, -, -, -, -⟩ := hsv.form
          clear hcc hcs hsv
          generalize l[k] = x at *
          by_cases h4 : 40 < x.length
          · have c5 : (40 : Int) < (x.length : Int) := by omega
            have hr := HR.out _ HB.out
            rw [Hbadk.out h4] at hr
            clear h4
            go_wp2_with fail
            first | exact hr | exact fin hr rfl
          · have c5 : ¬ (40 : Int) < (x.length : Int) := by omega
            go_wp2_with fail
            go_round
            case rel => exact ⟨k + 1, by omega, by go_num, fun i hi => by
              by_cases e : i = k
              · subst e; rw [Hx.out]; omega
              · exact Hno.out i (by omega)⟩
            case measure => simp [intOf]; omega
        · obtain rfl : k = l.length := by omega
          have llt : ¬ ((l.length : Nat) : Int) < (l.length : Int) := by omega
          have hr := HR.out _ HB.out
          have e : great16B cols l nb = false := by
            unfold great16B
            rw [Hcl.out, decide_eq_false h2, decide_eq_false h3]
            have : (l.any fun x => decide (40 < x.length)) = false := by
              rw [List.any_eq_false]
              intro x hx
              obtain ⟨i, hi, rfl⟩ := List.getElem_of_mem hx
              have := Hno.out i hi
              rw [getDS l _ i hi] at this
              simp; omega
            rw [this]; rfl
          rw [e] at hr
          clear e
          go_wp2_with fail
          first | exact hr | exact fin hr rfl
theorem CellsAt.blk {W W' : World} {b o : Nat} {cs : List Value} (h : CellsAt W b o cs) (e : W'.heap[b]? = W.heap[b]?) : CellsAt W' b o cs := by
  intro j u hu
  have := h j u hu
  simp only [World.cell?] at this ⊢
  rw [e]
  exact this
/-- The blocks of relations that have been written over. -/
def DoneB (bs : List (Nat × Nat)) (k b : Nat) : Prop := ∃ j, ∃ h : j < bs.length, j < k ∧ bs[j].1 ≤ b ∧ b < bs[j].2
def RowsB (hs : List Value) (b : Nat) : Prop := ∃ u ∈ hs, u.ownBlock = some b
theorem DoneB.succ {bs : List (Nat × Nat)} {k b : Nat} (h : DoneB bs k b) : DoneB bs (k + 1) b := by
  obtain ⟨j, h1, h2, h3⟩ := h
  exact ⟨j, h1, by omega, h3⟩
/-- What the walk over one relation's rows keeps. -/
structure FgT (wp wr : World) (hs : List Value) (ns : List Nat) (b1 b2 : Nat) : Prop where
  only : Only (RowsB hs) wp wr
  row : ∀ i (h : i < hs.length) (h2 : i < ns.length), Shp 24 3 b1 b2 wr hs[i] ns[i]
theorem FgT.set {wp wr : World} {hs : List Value} {ns : List Nat} {b1 b2 : Nat} (h : FgT wp wr hs ns b1 b2) {b i : Nat} (u : Value) (h4 : RowsB hs b) : FgT wp (wr.setCell ⟨b, i, none⟩ u) hs ns b1 b2 :=
  ⟨h.only.trans (Only.setCell wr (p := ⟨b, i, none⟩) h4 u), fun k hk h2 => (h.row k hk h2).setCell b i u⟩
set_option maxRecDepth 100000 in
set_option maxHeartbeats 8000000 in
theorem FoldGroups_any (lo hi lc hc l3 h3 : Nat) (rc : List S) (ac : Option Addr) (cc : Nat) (l : List (List V)) (lv : Value) (cols : List S) (cv : Value) (w : World) (hrc : Strs lc hc w (.slice ac rc.length cc) rc) (hhc : hc ≤ w.heap.size) (hv : Rws lo hi w lv l) (hhi : hi ≤ w.heap.size) (hcols : Strs l3 h3 w cv cols) (hh3 : h3 ≤ w.heap.size) (hrs : ∀ x ∈ l, ∀ a ∈ x, a.s.length ≤ 9223372036854775807) (R : Ending → World → Prop)
    (hR : ∀ w', Below w.heap.size w w' → R (.returned (.bool true)) w') : Calls Try.prog 12 #[.agg #[.slice ac rc.length cc, lv], cv] w R := by
  have HR := Lib.hid hR
  have Hl0 := Lib.hid hv
  have Hrc0 := Lib.hid hrc
  have Hc0 := Lib.hid hcols
  have Hrs := Lib.hid hrs
  obtain ⟨av, cv2, rfl, -, -, -, -⟩ := hv.form
  obtain ⟨ak, ck, rfl, -, -, -, -⟩ := hcols.form
  have hcl63 := hcols.len
  have hrl63 := hrc.len
  clear hR hv hrc hcols hrs
  go_enter Try.func12, Try.ntmps12
  go_upto_region 1 with fail
  have hBa := alloc_below w (.cells #[.slice ac rc.length cc, .slice av l.length cv2] 34)
  have hba := Blk.new w [.slice ac rc.length cc, .slice av l.length cv2] 34 rfl
  generalize w.alloc (.cells #[.slice ac rc.length cc, .slice av l.length cv2] 34) = wa at *
  have HBa := Lib.hid hBa
  have Hba := Lib.hid hba
  have hza := hBa.size
  have hla := hba.lt
  obtain ⟨c0, c1⟩ := hba.cells.c2
  simp only [Nat.zero_add] at c1
  clear hBa hba
  go_wp2_with fail
  refine great16_any lo hi rc ac cc l _ ak cols.length ck wa (Sl.below Hl0.out rowE_loc HBa.out hhi) (by omega) (by omega) (by omega) _ (fun wb hBb => ?_)
  have HBb := Lib.hid (HBa.out.trans (hBb.mono hza))
  have Hbb := Lib.hid (Hba.out.below hBb hla)
  have hzb := hBb.size
  clear c0 c1 hBb
  cases hg : great16B rc l cols.length
  case true =>
    have hr := HR.out wb HBb.out
    clear hg
    go_wp2_with fail
    first | exact hr | exact fin hr rfl
  obtain ⟨hcl, hll, hkl, hxl⟩ := great16_no hg
  have Hxl := Lib.hid hxl
  clear hg hxl Hba HBa
  obtain ⟨c0, c1⟩ := Hbb.out.cells.c2
  simp only [Nat.zero_add] at c1
  go_wp2_with fail
  refine lawOwn16_any lo hi lc hc rc ac cc l _ wb (Sl.below Hrc0.out Strs.loc HBb.out hhc) (by omega) (Sl.below Hl0.out rowE_loc HBb.out hhi) (by omega) (by omega) (by omega) (fun x hx => by have := Hxl.out x hx; omega) _ (fun w1 ycv ylv hB1 hyc hyl => ?_)
  have HB1 := Lib.hid hB1
  have Hyc1 := Lib.hid hyc
  have Hyl1 := Lib.hid hyl
  have hz1 := hB1.size
  obtain ⟨ayc, cyc, rfl, -, -, -, -⟩ := hyc.form
  obtain ⟨ayl, cyl, rfl, -, -, -, -⟩ := hyl.form
  clear hB1 hyc hyl c0 c1
  go_upto_region 4 with fail
  have hBa := alloc_below w1 (.cells #[.slice ayc rc.length cyc, .slice ayl l.length cyl] 34)
  have hba := Blk.new w1 [.slice ayc rc.length cyc, .slice ayl l.length cyl] 34 rfl
  generalize w1.alloc (.cells #[.slice ayc rc.length cyc, .slice ayl l.length cyl] 34) = w2 at *
  have HB12 := Lib.hid hBa
  have Hby := Lib.hid hba
  have hz2 := hBa.size
  have hby := hba.lt
  have HBw2 := Lib.hid (HBb.out.trans ((HB1.out.mono (by omega)).trans (hBa.mono (by omega))))
  have Hbr := Lib.hid (Hbb.out.below (HB1.out.trans (hBa.mono hz1)) (by omega))
  have Hyc := Lib.hid (Sl.below Hyc1.out Strs.loc hBa (Nat.le_refl _))
  have Hyl := Lib.hid (Sl.below Hyl1.out rowE_loc hBa (Nat.le_refl _))
  have Hrc := Lib.hid (Sl.below Hrc0.out Strs.loc HBw2.out hhc)
  have Hl := Lib.hid (Sl.below Hl0.out rowE_loc HBw2.out hhi)
  have Hc := Lib.hid (Sl.below Hc0.out Strs.loc HBw2.out hh3)
  clear hBa hba Hyc1 Hyl1 Hrc0 Hl0 Hc0 HB12 HB1 Hbb HBb
  have hr2 : w.heap.size < w2.heap.size := by omega
  have hw1 : w.heap.size ≤ w1.heap.size := by omega
  obtain ⟨c0, c1⟩ := Hby.out.cells.c2
  simp only [Nat.zero_add] at c1
  go_wp2_with fail
  refine Groups_any wb.heap.size w1.heap.size wb.heap.size w1.heap.size l3 h3 rc _ _ l _ cols _ w2 Hyc.out (by omega) Hyl.out (by omega) Hc.out (by omega) (by omega) _ (fun wG av3 hBG hLG => ?_)
  have hzG := hBG.size
  obtain ⟨rs, hrs⟩ : ∃ rs, okL (grpErr rc l cols) (grpL rc l cols) = rs := ⟨_, rfl⟩
  rw [hrs] at hLG
  have Hrss : Hid (∀ r ∈ rs, ∀ x ∈ r, ∀ a ∈ x, a.s.length ≤ 9223372036854775807) := Lib.hid (fun r hr x hx => by
    rw [← hrs] at hr
    have h1 := okL_mem hr
    unfold grpL at h1
    obtain ⟨key, -, rfl⟩ := List.mem_map.1 h1
    unfold withK at hx
    exact Hrs.out x (List.mem_filter.1 hx).1)
  have hlG := hLG
  obtain ⟨hs, bs, hhs, hbs, ho, hp, hiR⟩ := hlG
  obtain ⟨p3, q3, rfl⟩ := RLs.slice hLG
  have Hhs := Lib.hid hhs
  have Hbs := Lib.hid hbs
  have Ho := Lib.hid ho
  have Hp := Lib.hid hp
  have HiR := Lib.hid hiR
  have HBG := Lib.hid hBG
  have Hbr3 := Lib.hid (Hbr.out.below hBG (by omega))
  have HBwG := Lib.hid (HBw2.out.trans (hBG.mono (by omega)))
  have hrsl : rs.length ≤ 9223372036854775807 := by
    have h1 := (Sl.ofOwn (fun _ => rfl) ho : Sl (flat RH.enc) 2 _ _ _ _ hs).len
    omega
  clear hBG hLG hhs hbs ho hp hiR c0 c1
  obtain ⟨d0, d1⟩ := Hbr3.out.cells.c2
  simp only [Nat.zero_add] at d1
  go_wp2_with fail
  refine ref16_any _ _ _ _ _ _ wG _ (fun wR hBR => ?_)
  have hzR := hBR.size
  have HBwR := Lib.hid (HBwG.out.trans (hBR.mono (by omega)))
  have HBGR := Lib.hid hBR
  clear hBR
  go_wp2_with fail
  refine refGroups_any lo hi lc hc l3 h3 rc _ _ l _ cols _ wR (Sl.below Hrc.out Strs.loc ((HBG.out.trans (HBGR.out.mono hzG)).mono (Nat.le_refl _)) (by omega)) (by omega) (Sl.below Hl.out rowE_loc (HBG.out.trans (HBGR.out.mono hzG)) (by omega)) (by omega) (Sl.below Hc.out Strs.loc (HBG.out.trans (HBGR.out.mono hzG)) (by omega)) (by omega) Hrs.out _ (fun wH bv hBH hLH => ?_)
  rw [hrs] at hLH
  have hzH := hBH.size
  obtain ⟨p4, q4, rfl⟩ := QLs.slice hLH
  have HLH := Lib.hid hLH
  have HBGH := Lib.hid (HBGR.out.trans (hBH.mono hzR))
  have HBw := Lib.hid (HBwR.out.trans (hBH.mono (by omega)))
  clear hBH hLH hrs d0 d1
  generalize grpErr rc l cols = er at *
  go_wp2_with fail
  go_loopw [43] (fun t43 wr => ∃ k : Nat, k ≤ rs.length ∧ t43 = .int .i64 k ∧ Only (DoneB bs k) wH wr) (fun t43 _ => rs.length - (intOf t43).toNat)
  case atStart => exact ⟨0, Nat.zero_le _, rfl, Only.refl _ _⟩
  case round =>
    obtain ⟨k, hk, rfl, hon⟩ := hrel
    obtain ⟨wo, ewo⟩ : ∃ x, x = wr := ⟨_, rfl⟩
    subst ewo
    have Hon := Lib.hid hon
    have kk0 : (0 : Int) ≤ (k : Int) := by omega
    have hzo := hon.size
    clear hon
    have Hlow : Hid (∀ b, DoneB bs k b → w2.heap.size ≤ b ∧ b < wG.heap.size) := Lib.hid (fun b ⟨j, hj, _, h1, h2⟩ => by
      obtain ⟨k1, k2, -, -⟩ := HiR.out j (by rw [Hhs.out, ← Hbs.out]; exact hj) hj (by rw [← Hbs.out]; exact hj)
      omega)
    by_cases hlt : k < rs.length
    · have kkl : (k : Int) < (rs.length : Int) := by omega
      have hkh : k < hs.length := by rw [Hhs.out]; exact hlt
      have hkb : k < bs.length := by rw [Hbs.out]; exact hlt
      obtain ⟨r1, r2, r3, r4⟩ := HiR.out k hkh hkb hlt
      have HrO : Hid (RelO bs[k].1 bs[k].2 wo hs[k] rc rs[k]) := Lib.hid ((r3.agree (.below HBGH.out r2)).agree (Hon.out.agree (by omega) (fun b ⟨j, hj, hjk, h1, h2⟩ => .inl (by
        have := List.pairwise_iff_getElem.1 Hp.out j k hj hkb hjk
        omega))))
      have HoO : Hid (OwnRH w2.heap.size wo (.slice p3 rs.length q3) hs) := Lib.hid (Own.same (Own.kept Ho.out HBGH.out) (fun g e => Hon.out.block g (by have := (Own.lt (Own.kept Ho.out HBGH.out) g e).2; omega) (fun ⟨j, hj, _, h1, h2⟩ => by
        obtain ⟨-, -, -, k4⟩ := HiR.out j (by rw [Hhs.out, ← Hbs.out]; exact hj) hj (by rw [← Hbs.out]; exact hj)
        rcases k4 g e with h | h <;> omega)))
      have HqO : Hid (QLs wR.heap.size wo (.slice p4 rs.length q4) rc rs) := Lib.hid (HLH.out.keptOnly Hon.out (fun b hb => by have := (Hlow.out b hb).2; omega))
      have HrG := Lib.hid (fun g e => r4 g e)
      generalize hb1 : bs[k].1 = b1 at *
      generalize hb2 : bs[k].2 = b2 at *
      have Hb1 := Lib.hid hb1
      have Hb2 := Lib.hid hb2
      clear r3 r4 hb1 hb2
      obtain ⟨ao', cap', e', -, -, -, hc'⟩ := (Sl.ofOwn (fun _ => rfl) HoO.out : Sl (flat RH.enc) 2 _ _ _ _ hs).form
      injection e' with e1 e2 e3
      subst e1 e3
      obtain ⟨ga, oa, rfl, ga1, ga2, hcc⟩ := hc' k hkh
      obtain ⟨cs, _, hcs, ecs⟩ := hcc k hkh
      obtain rfl : cs = [hs[k].c.v, hs[k].l.v] := ecs
      have Hga := Lib.hid hcs
      clear hcc hc' hcs e2
      obtain ⟨gs, gbs, gl, gbl, go', gp, gi⟩ := HqO.out
      have hkg : k < gs.length := by rw [gl]; exact hlt
      have hkgb : k < gbs.length := by rw [gbl]; exact hlt
      obtain ⟨s1, s2, s3, s4⟩ := gi k hkg hkgb hlt
      obtain ⟨ao', cap', e', -, -, -, hc'⟩ := (Sl.ofOwn (fun _ => rfl) go' : Sl (flat RH.enc) 2 _ _ _ _ gs).form
      injection e' with e1 e2 e3
      subst e1 e3
      obtain ⟨gb, ob, rfl, gb1, gb2, hcc⟩ := hc' k hkg
      obtain ⟨cs, _, hcs, ecs⟩ := hcc k hkg
      obtain rfl : cs = [gs[k].c.v, gs[k].l.v] := ecs
      have Hgb := Lib.hid hcs
      have Hs3 := Lib.hid s3
      clear hcc hc' hcs e2 gi gp go' gl gbl s3 s4
      generalize gs[k] = gk at *
      generalize gbs[k] = gbk at *
      obtain ⟨pk, qk, epk⟩ := Own.slice HrO.out.cols
      obtain ⟨hsk0, hRk0, -, -⟩ := HrO.out.rows
      obtain ⟨pl, ql, epl⟩ := Own.slice hRk0.own
      rw [hRk0.len] at epl
      have HaC : Hid (Strs b1 wo.heap.size wo (.slice pk rc.length qk) rc) := Lib.hid (by rw [← epk]; exact OwnT.sl HrO.out.cols)
      have HaR : Hid (Rws b1 wo.heap.size wo (.slice pl rs[k].length ql) rs[k]) := Lib.hid (by rw [← epl]; exact OwnR.rws hRk0)
      have HbC := Lib.hid Hs3.out.cols
      have HbR := Lib.hid Hs3.out.rows
      obtain ⟨pg, qg, epg, -, -, -, -⟩ := HbC.out.form
      obtain ⟨ph, qh, eph, -, -, -, -⟩ := HbR.out.form
      rw [epk, epl] at Hga
      rw [epg, eph] at Hgb
      rw [epg] at HbC
      rw [eph] at HbR
      have Hrk : Hid (∀ x ∈ rs[k], ∀ a ∈ x, a.s.length ≤ 9223372036854775807) := Lib.hid (Hrss.out _ (List.getElem_mem hlt))
      have Hepl := Lib.hid epl
      have hnk63 := HaR.out.len
      clear hRk0 epk epg eph epl hsk0
      generalize rs[k] = rk at *
      obtain ⟨nk, hnk⟩ : ∃ nk, nk = rk.length := ⟨_, rfl⟩
      rw [← hnk] at Hga Hgb Hepl HaR HbR hnk63
      have Hnk := Lib.hid hnk
      clear hnk
      go_upto_region 11 with fail
      have hS0 : Below wo.heap.size wo wo.drew := (Below.refl _ _).drew
      refine wp_region_held_drew (S := fun w' => Below wo.heap.size wo w') (by kernel_rfl) hS0 (fun hHeld => ?_)
      refine wpAnyH_take (i := 0) (v := .slice (some ⟨ga, oa, none⟩) rs.length q3) rfl (by kernel_rfl) (by kernel_rfl) (by kernel_rfl) (fun _ _ _ h => h) (Or.inl ⟨by rfl, ?_⟩) hHeld ?_
      · intro w' hSw; go_simp
      try simp only [Act.put, List.getElem_toArray, List.getElem_cons_succ, List.getElem_cons_zero, List.setIfInBounds_toArray, List.set_cons_zero, List.set_cons_succ]
      refine wpAnyH_take (i := 1) (v := .int .i64 ((k : Int))) rfl (by kernel_rfl) (by kernel_rfl) (by kernel_rfl) (fun _ _ _ h => h) (Or.inl ⟨by rfl, ?_⟩) hHeld ?_
      · intro w' hSw; go_simp
      try simp only [Act.put, List.getElem_toArray, List.getElem_cons_succ, List.getElem_cons_zero, List.setIfInBounds_toArray, List.set_cons_zero, List.set_cons_succ]
      refine wpAnyH_take (i := 2) (v := .pointer (some ⟨ga, oa + k * 2, none⟩)) rfl (by kernel_rfl) (by kernel_rfl) (by kernel_rfl) (fun _ _ _ h => h) (Or.inl ⟨by rfl, ?_⟩) hHeld ?_
      · intro w' hSw; go_simp
      try simp only [Act.put, List.getElem_toArray, List.getElem_cons_succ, List.getElem_cons_zero, List.setIfInBounds_toArray, List.set_cons_zero, List.set_cons_succ]
      refine wpAnyH_take (i := 3) (v := .agg #[.slice pk rc.length qk, .slice pl nk ql]) rfl (by kernel_rfl) (by kernel_rfl) (by kernel_rfl) (fun _ _ _ h => h) (Or.inl ⟨by rfl, ?_⟩) hHeld ?_
      · intro w' hSw; have kc := Hga.out.agree (.below hSw (Nat.le_refl _)) (Nat.zero_le _) ga2; have kx := kc.runVar (P := Try.prog) (t := 34) (fun _ => by kernel_rfl) (fun _ => by kernel_rfl); obtain ⟨z0, z1⟩ := kc.c2; go_simp
      try simp only [Act.put, List.getElem_toArray, List.getElem_cons_succ, List.getElem_cons_zero, List.setIfInBounds_toArray, List.set_cons_zero, List.set_cons_succ]
      refine wpAnyH_take (i := 5) (v := .slice (some ⟨gb, ob, none⟩) rs.length q4) rfl (by kernel_rfl) (by kernel_rfl) (by kernel_rfl) (fun _ _ _ h => h) (Or.inl ⟨by rfl, ?_⟩) hHeld ?_
      · intro w' hSw; go_simp
      try simp only [Act.put, List.getElem_toArray, List.getElem_cons_succ, List.getElem_cons_zero, List.setIfInBounds_toArray, List.set_cons_zero, List.set_cons_succ]
      refine wpAnyH_take (i := 6) (v := .int .i64 ((k : Int))) rfl (by kernel_rfl) (by kernel_rfl) (by kernel_rfl) (fun _ _ _ h => h) (Or.inl ⟨by rfl, ?_⟩) hHeld ?_
      · intro w' hSw; go_simp
      try simp only [Act.put, List.getElem_toArray, List.getElem_cons_succ, List.getElem_cons_zero, List.setIfInBounds_toArray, List.set_cons_zero, List.set_cons_succ]
      refine wpAnyH_take (i := 7) (v := .pointer (some ⟨gb, ob + k * 2, none⟩)) rfl (by kernel_rfl) (by kernel_rfl) (by kernel_rfl) (fun _ _ _ h => h) (Or.inl ⟨by rfl, ?_⟩) hHeld ?_
      · intro w' hSw; go_simp
      try simp only [Act.put, List.getElem_toArray, List.getElem_cons_succ, List.getElem_cons_zero, List.setIfInBounds_toArray, List.set_cons_zero, List.set_cons_succ]
      refine wpAnyH_take (i := 8) (v := .agg #[.slice pg rc.length qg, .slice ph nk qh]) rfl (by kernel_rfl) (by kernel_rfl) (by kernel_rfl) (fun _ _ _ h => h) (Or.inl ⟨by rfl, ?_⟩) hHeld ?_
      · intro w' hSw; have kc := Hgb.out.agree (.below hSw (Nat.le_refl _)) (Nat.zero_le _) gb2; have kx := kc.runVar (P := Try.prog) (t := 53) (fun _ => by kernel_rfl) (fun _ => by kernel_rfl); obtain ⟨z0, z1⟩ := kc.c2; go_simp
      try simp only [Act.put, List.getElem_toArray, List.getElem_cons_succ, List.getElem_cons_zero, List.setIfInBounds_toArray, List.set_cons_zero, List.set_cons_succ]
      refine wpAnyH_ready (rs := [4]) (by kernel_rfl) (by simp) ?_
      refine allCall (f := 55) (args := #[.agg #[.slice pk rc.length qk, .slice pl nk ql]]) rfl (by kernel_rfl) (by kernel_rfl) ?_ AllReadyH.nil
      refine ref16_any _ _ _ _ _ _ wo.drew _ (fun wq1 hB => ?_)
      refine ⟨_, rfl, hHeld.trans (hB.mono hHeld.size), ?_⟩
      have hHeld2 := hHeld.trans (hB.mono hHeld.size)
      clear hHeld
      have hHeld := hHeld2
      clear hHeld2
      clear hB
      try simp only [Act.put, List.getElem_toArray, List.getElem_cons_succ, List.getElem_cons_zero, List.setIfInBounds_toArray, List.set_cons_zero, List.set_cons_succ]
      refine wpAnyH_ready (rs := [9]) (by kernel_rfl) (by simp) ?_
      refine allCall (f := 56) (args := #[.agg #[.slice pk rc.length qk, .slice pl nk ql], .agg #[.slice pg rc.length qg, .slice ph nk qh]]) rfl (by kernel_rfl) (by kernel_rfl) ?_ AllReadyH.nil
      refine Same_any b1 wo.heap.size gbk.1 gbk.2 b1 wo.heap.size gbk.1 gbk.2 rc rk _ _ _ _ wq1 (by have h := Sl.below HaC.out Strs.loc hHeld (Nat.le_refl _); exact h) (Sl.below HbC.out Strs.loc hHeld s2) (Sl.below HaR.out rowE_loc hHeld (Nat.le_refl _)) (Sl.below HbR.out rowE_loc hHeld s2) (by have := hHeld.size; omega) (by have := hHeld.size; omega) (by have := hHeld.size; omega) (by have := hHeld.size; omega) Hrk.out _ (fun wq2 hB => ?_)
      refine ⟨_, rfl, hHeld.trans (hB.mono hHeld.size), ?_⟩
      have hHeld2 := hHeld.trans (hB.mono hHeld.size)
      clear hHeld
      have hHeld := hHeld2
      clear hHeld2
      clear hB
      try simp only [Act.put, List.getElem_toArray, List.getElem_cons_succ, List.getElem_cons_zero, List.setIfInBounds_toArray, List.set_cons_zero, List.set_cons_succ]
      refine wpAnyH_take (i := 10) (v := .bool false) rfl (by kernel_rfl) (by kernel_rfl) (by kernel_rfl) (fun _ _ _ h => h) (Or.inl ⟨by rfl, ?_⟩) hHeld ?_
      · intro w' hSw; go_simp
      try simp only [Act.put, List.getElem_toArray, List.getElem_cons_succ, List.getElem_cons_zero, List.setIfInBounds_toArray, List.set_cons_zero, List.set_cons_succ]
      have HH2 := Lib.hid hHeld
      refine wpAnyH_done (by kernel_rfl) ?_ _
      clear hHeld
      have hzW := HH2.out.size
      have Hga1 := Lib.hid (Hga.out.agree (.below HH2.out (Nat.le_refl _)) (Nat.zero_le _) ga2)
      have HrW := Lib.hid (HrO.out.agree (.below HH2.out (by omega)))
      obtain ⟨hsk, hRk, hRk1, hRk2⟩ := HrW.out.rows
      rw [Hepl.out] at hRk
      have HRk := Lib.hid hRk
      have HRk2 := Lib.hid hRk2
      have hkl := hRk.len
      have Hkl := Lib.hid hkl
      have Hna : Hid (¬ RowsB hsk ga) := Lib.hid (fun ⟨u, hu, e⟩ => by
        obtain ⟨i, hi, rfl⟩ := List.getElem_of_mem hu
        have h1 := (Own.lt (HRk.out.row i hi (by rw [← Hkl.out]; exact hi)) ga e).1
        have h2 := HRk2.out _ hu ga e
        rcases HrG.out ga rfl with h | h <;> omega)
      have T0 : FgT wq2 wq2 hsk (rk.map List.length) b1 wq2.heap.size :=
        ⟨Only.refl _ _, fun i h h2 => by
          rw [List.getElem_map]
          exact Shp.ofOwn (HRk.out.row i h (by simpa using h2))⟩
      have HT0 := Lib.hid T0
      have hkn : hsk.length = nk := hkl.trans Hnk.out.symm
      have Hkn := Lib.hid hkn
      obtain ⟨d0, d1⟩ := Hga1.out.c2
      clear hRk hRk1 hRk2 hkl T0 hkn
      go_wp2_with fail
      go_loopw [63] (fun t63 wr => ∃ i : Nat, i ≤ nk ∧ t63 = .int .i64 i ∧ FgT wq2 wr hsk (rk.map List.length) b1 wq2.heap.size) (fun t63 _ => nk - (intOf t63).toNat)
      case atStart => exact ⟨0, Nat.zero_le _, rfl, HT0.out⟩
      case round =>
        clear d0 d1
        obtain ⟨i, hi, rfl, hT⟩ := hrel
        obtain ⟨wi, ewi⟩ : ∃ x, x = wr := ⟨_, rfl⟩
        subst ewi
        have HT := Lib.hid hT
        have ii0 : (0 : Int) ≤ (i : Int) := by omega
        obtain ⟨d0, d1⟩ := (Hga1.out.blk (hT.only.block ga (by omega) Hna.out)).c2
        clear hT
        by_cases hit : i < nk
        · have iil : (i : Int) < (nk : Int) := by omega
          have hih : i < hsk.length := by rw [Hkn.out]; exact hit
          have hir : i < rk.length := by rw [← Hnk.out]; exact hit
          obtain ⟨ao', cap', e', -, -, -, hc'⟩ := (OwnH.sl HRk.out.own).form
          injection e' with e1 e2 e3
          subst e1 e3
          obtain ⟨b, off, rfl, hx1, hx2, hcc⟩ := hc' i hih
          obtain ⟨cs, _, hcs, ecs⟩ := hcc i hih
          obtain rfl : cs = [hsk[i]] := ecs
          obtain ⟨p, cp, ep⟩ := Own.slice (HRk.out.row i hih hir)
          have hnl := (OwnV.sl (HRk.out.row i hih hir)).len
          have Hcell := Lib.hid hcs
          have Hnb : Hid (¬ RowsB hsk b) := Lib.hid (fun ⟨u, hu, e⟩ => by
            obtain ⟨q, hq, rfl⟩ := List.getElem_of_mem hu
            exact HRk.out.apart q hq b e rfl)
          have Htb : Hid (∀ q, (Value.slice p rk[i].length cp).ownBlock = some q → RowsB hsk q) := Lib.hid (fun q hq => ⟨hsk[i], List.getElem_mem hih, by rw [ep]; exact hq⟩)
          have Hrow : Hid (∀ wr', FgT wq2 wr' hsk (rk.map List.length) b1 wq2.heap.size → Shp 24 3 b1 wq2.heap.size wr' (.slice p rk[i].length cp) rk[i].length) := Lib.hid (fun wr' h => by
            have := h.row i hih (by rw [List.length_map]; exact hir)
            rw [List.getElem_map, ep] at this
            exact this)
          have Hhead : Hid (∀ wr', FgT wq2 wr' hsk (rk.map List.length) b1 wq2.heap.size → wr'.cell? ⟨b, off + i, none⟩ = some (.slice p rk[i].length cp)) := Lib.hid (fun wr' h => by
            have g0 := (Hcell.out.blk (h.only.block b (by omega) Hnb.out)).c1
            rw [Nat.mul_one, ep] at g0
            exact g0)
          have g0 := Hhead.out _ HT.out
          clear ep hcc hc' hcs e2
          generalize rk[i].length = m at *
          go_wp2_with fail
          go_loopw [75] (fun t75 wr => ∃ j : Nat, j ≤ m ∧ t75 = .int .i64 j ∧ FgT wq2 wr hsk (rk.map List.length) b1 wq2.heap.size) (fun t75 _ => m - (intOf t75).toNat)
          case atStart => exact ⟨0, Nat.zero_le _, rfl, HT.out⟩
          case round =>
            clear d0 d1 g0 HT
            obtain ⟨j, hj, rfl, hT⟩ := hrel
            obtain ⟨wj, ewj⟩ : ∃ x, x = wr := ⟨_, rfl⟩
            subst ewj
            have HT := Lib.hid hT
            have jj0 : (0 : Int) ≤ (j : Int) := by omega
            obtain ⟨d0, d1⟩ := (Hga1.out.blk (hT.only.block ga (by omega) Hna.out)).c2
            have g0 := Hhead.out _ hT
            clear hT
            by_cases hjt : j < m
            · have jjl : (j : Int) < (m : Int) := by omega
              obtain ⟨g, cap, ev, q1, q2, q3_, q4_, q5, q6⟩ := (Hrow.out _ HT.out).cell hjt
              injection ev with ev1 ev2 ev3
              subst ev1 ev3
              obtain ⟨u0, hu0⟩ := q5 0 (by omega)
              obtain ⟨u1, hu1⟩ := q5 1 (by omega)
              obtain ⟨u2, hu2⟩ := q5 2 (by omega)
              rw [Nat.add_zero] at hu0
              have hf0 := q6 (j * 3)
              have hf1 := q6 (j * 3 + 1)
              have hf2 := q6 (j * 3 + 2)
              have HTn := Lib.hid (((HT.out.set (b := g) (i := j * 3) (.int .i64 99) (Htb.out g rfl)).set (b := g) (i := j * 3 + 1) (.int .i64 0) (Htb.out g rfl)).set (b := g) (i := j * 3 + 2) (.string ⟨#[]⟩) (Htb.out g rfl))
              clear q5 q6
              go_wp2_with fail
              go_roundw
              case rel => exact ⟨j + 1, by omega, by go_num, HTn.out⟩
              case measure => simp [intOf]; omega
            · obtain rfl : j = m := by omega
              have nln : ¬ ((j : Nat) : Int) < (j : Int) := by omega
              go_wp2_with fail
              go_roundw
              case rel => exact ⟨i + 1, by omega, by go_num, HT.out⟩
              case measure => simp [intOf]; omega
        · obtain rfl : i = nk := by omega
          have llt : ¬ ((i : Nat) : Int) < (i : Int) := by omega
          have Hnext : Hid (Only (DoneB bs (k + 1)) wH wi) := Lib.hid (((Hon.out.mono (fun b _ h => h.succ)).trans (Below.only HH2.out)).trans (HT.out.only.mono (fun b _ ⟨u, hu, e⟩ => by
            obtain ⟨q, hq, rfl⟩ := List.getElem_of_mem hu
            have h1 := (Own.lt (HRk.out.row q hq (by rw [← Hkl.out]; exact hq)) b e).1
            have h2 := HRk2.out _ hu b e
            exact ⟨k, hkb, by omega, by rw [Hb1.out]; exact h1, by rw [Hb2.out]; exact h2⟩)))
          go_wp2_with fail
          go_roundw
          case rel => exact ⟨k + 1, by omega, by go_num, Hnext.out⟩
          case measure => simp [intOf]; omega
    · obtain rfl : k = rs.length := by omega
      have llt : ¬ ((rs.length : Nat) : Int) < (rs.length : Int) := by omega
      have HB2o := Lib.hid (HBG.out.trans ((HBGH.out.mono hzG).trans (Hon.out.below (by omega) (fun b hb => (Hlow.out b hb).1))))
      have hz2o := HB2o.out.size
      have HBwo := Lib.hid (HBw2.out.trans (HB2o.out.mono (by omega)))
      obtain ⟨c0, c1⟩ := (Hby.out.below HB2o.out hby).cells.c2
      simp only [Nat.zero_add] at c1
      obtain ⟨d0, d1⟩ := (Hbr.out.below HB2o.out (by omega)).cells.c2
      simp only [Nat.zero_add] at d1
      go_wp2_with fail
      refine lawSame16_any wb.heap.size w1.heap.size lo hi wb.heap.size w1.heap.size lc hc rc l _ _ _ _ wo (Sl.below Hyc.out Strs.loc HB2o.out (by omega)) (Sl.below Hrc.out Strs.loc HB2o.out (by omega)) (Sl.below Hyl.out rowE_loc HB2o.out (by omega)) (Sl.below Hl.out rowE_loc HB2o.out (by omega)) (by omega) (by omega) (by omega) (by omega) Hrs.out _ (fun w9 hB9 => ?_)
      have hr := HR.out w9 (HBwo.out.trans (hB9.mono (by omega)))
      clear c0 c1 d0 d1
      go_wp2_with fail
      first | exact hr | exact fin hr rfl
end Go.Proofs.Ytpncblagjkbemaa
end

/- FoldGroups' walk, of a relation as an argument lays it. -/
section
set_option linter.unusedVariables false
set_option linter.unusedSimpArgs false
namespace Go.Proofs.Ytpncblagjkbemaa
open Go.RowKit
theorem FoldGroups_rel (p : List S × List (List V)) (v : Value) (cols : List S) (cv : Value) (w : World) (hp : RelIn w v p) (ho : relOk p) (hcols : Strs 0 w.heap.size w cv cols) (R : Ending → World → Prop)
    (hR : ∀ w', Below w.heap.size w w' → R (.returned (.bool true)) w') : Calls Try.prog 12 #[v, cv] w R := by
  obtain ⟨ac, cc, lv, rfl, h1, h2⟩ := hp
  exact FoldGroups_any 0 w.heap.size 0 w.heap.size 0 w.heap.size p.1 ac cc p.2 lv cols cv w h1 (Nat.le_refl _) h2 (Nat.le_refl _) hcols (Nat.le_refl _) (fun x hx a ha => ho x hx a ha) R hR
end Go.Proofs.Ytpncblagjkbemaa
end

/- FoldGroups holds outright: for any relation and columns the call returns true, and the arguments read behind it as before. No condition. -/
section
set_option linter.unusedVariables false
set_option linter.unusedSimpArgs false
namespace Go.Proofs.Ytpncblagjkbemaa.foldGroups
open Go.ChangeShapes Go.WideShapes Go.ChangeAt Go.RowKit
open Go.ChangeMaps (open_string shut_string)
set_option linter.unusedVariables false

set_option maxRecDepth 100000 in
theorem contract (H : Type) (enc : TypeId × Value → H) (W : World) (base : Nat) (args : Array Value) (ds gs : List (DataW H)) (before : List MemPlace)
    (hval : ∀ (j : Nat) t v, Try.f12.params[j]? = some t → args[j]? = some v → Value.okWide Try.prog W .any base t v)
    (hW : DataW.Whole enc Try.prog Try.f12.params.toList Rows.foldGroupsSpec.vars false W args.toList ds gs before) :
    Calls Try.prog 12 args W fun e W' => ∃ v, e = .returned v ∧ Rows.foldGroupsSpec.post enc Try.prog Try.f12 false true false false W args v W' := by
  have hW' := hW
  obtain ⟨p, q, hA0, hV, rfl, hfz, hnd⟩ := hW
  have hA : DataW.TrodAll enc Try.prog W 0 (fun _ => true) true Try.f12.params.toList args.toList ds p := hA0
  rw [Try.params12] at hA hval
  have hAk := hA
  obtain ⟨v0, vs0, d0, ds0, p0, q0, hargs, rfl, rfl, h0, r0⟩ := trodAll_cons hA
  obtain ⟨v1, vs1, d1, ds1, p1, q1, rfl, rfl, rfl, h1, r1⟩ := trodAll_cons r0
  obtain ⟨rfl, rfl, rfl⟩ := trodAll_nil r1
  obtain rfl : args = #[v0, v1] := by cases args; simp_all
  obtain ⟨rfl, rfl⟩ := trodVars_none hV
  obtain ⟨x0, s0, o0⟩ := open_rel (hval 0 34 v0 rfl rfl) h0
  obtain ⟨a1, len1, cap1, rfl⟩ := okWide_slice Try.underlying31 (hval 1 31 v1 rfl rfl)
  obtain ⟨n1, h1⟩ := h1
  obtain ⟨x1, s1, o1⟩ := open_sl (α := S) (E := flat strE) (ok := colOk) Try.underlying31 (size := 1) (by kernel_rfl) (by decide) el_col (by simpa [Value.cells] using h1)
  clear hA0
  refine FoldGroups_rel x0 _ x1 _ W s0 o0 s1 _ fun W' bel => ?_
  exact ⟨_, rfl, _, _, _, [], _, [], hW', trodAll_mk1 (shut_bool Try.underlying4 _), trodAll_below laidOut bel _ _ _ _ (by kernel_rfl) hAk, rfl, bel.frame _, fun h => by cases h⟩

set_option maxRecDepth 100000 in
theorem lifted (os : Os) (started : os.Started) (H : Type) (enc : TypeId × Value → H) :
    ReturnsInHanded {} Try.checked os 12 .any (Rows.foldGroupsSpec.pre6 enc Try.prog Try.f12 Rows.foldGroupsRow.domain false) (Rows.foldGroupsSpec.post enc Try.prog Try.f12 false true false false) := by
  refine returnsInHanded_of_change (C := Try.checked) own started (by kernel_rfl) Try.func12
    (ChangeSpec.witness6 (enc := enc) (C := Try.checked) false ⟨#[], #[.agg #[.slice none 0 0, .slice none 0 0], .slice none 0 0], []⟩ 8 (by kernel_rfl) (by kernel_rfl) (by kernel_rfl) (by kernel_rfl)) ?_
  intro W base args ds gs before hval hW _ _
  exact contract H enc W base args ds gs before hval hW

theorem over : Rows.foldGroupsRow.holds Try.pinned (OpenSpec.ofChange Rows.foldGroupsSpec) :=
  OpenClaim.holds_of_wide 12 Try.f12 rfl rfl rfl rfl rfl rfl rfl ⟨rfl, rfl, rfl, rfl, rfl⟩ rfl rfl rfl rfl rfl (by kernel_rfl) Try.func12 (by kernel_rfl)
    (of_decide_eq_true (by kernel_rfl)) (by unfold Func.isWrapper; first | (rw [if_pos (by decide +kernel)]; kernel_rfl) | (rw [if_neg (by decide +kernel)]; exact ⟨rfl, rfl⟩))
    (fun os started H enc _ => lifted os started H enc)

theorem proved : Rows.FoldGroupsSaid := over
end Go.Proofs.Ytpncblagjkbemaa.foldGroups
end
