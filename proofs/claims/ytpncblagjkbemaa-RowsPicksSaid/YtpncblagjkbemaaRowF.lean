/- The relation of rows: made. -/
import Derived.Test.YtpncblagjkbemaaRowE
namespace Go.Proofs.Ytpncblagjkbemaa
open Go.RowKit
set_option linter.unusedVariables false
set_option linter.unusedSimpArgs false

theorem alloc_below (w : World) (o : Obj) : Below w.heap.size w (w.alloc o) := (Below.refl _ _).alloc (Nat.le_refl _) _
/-- What a slice owns is no block of another type. -/
theorem Own.ne_blk {α : Type} {enc : α → List Value} {e : TypeId} {size lo : Nat} {w : World} {v : Value} {xs : List α} (h : Own enc e size lo w v xs) {b : Nat} {cs : List Value} {t : TypeId} (hb : Blk w b cs t) (ht : t ≠ e) : v.ownBlock ≠ some b := by
  intro hk
  rcases h.2 with ⟨rfl, -⟩ | ⟨g, cap, cur, rfl, -, hg, -⟩
  · cases hk
  · have e1 : g = b := by simpa [Value.ownBlock] using hk
    subst e1
    unfold Blk at hb
    rw [hg] at hb
    injection hb with hb
    injection hb with _ hb
    exact ht hb.symm
theorem OwnR.setBlk {lo : Nat} {w : World} {v : Value} {hs : List Value} {xs : List (List V)} (h : OwnR lo w v hs xs) {b : Nat} {cs : List Value} {t : TypeId} (hb : Blk w b cs t) (h1 : t ≠ 42) (h2 : t ≠ 24) (i : Nat) (u : Value) : OwnR lo (w.setCell ⟨b, i, none⟩ u) v hs xs :=
  ⟨Own.setOther h.own (Own.ne_blk h.own hb h1) u, h.len, fun i hi hi2 => Own.setOther (h.row i hi hi2) (Own.ne_blk (h.row i hi hi2) hb h2) u, h.apart⟩
def relCanon (xs : List (List V)) : List (List V) := canonL cmpR xs
theorem canon_len_le (xs : List (List V)) : (relCanon xs).length ≤ xs.length := by
  have key : ∀ (l o : List (List V)), (l.foldl (fun o x => insR cmpR x o) o).length ≤ o.length + l.length := by
    intro l
    induction l with
    | nil => intro o; simp
    | cons x r ih =>
      intro o
      rw [List.foldl_cons]
      have h1 := ih (insR cmpR x o)
      have h2 : (insR cmpR x o).length ≤ o.length + 1 := by
        clear h1 ih
        induction o with
        | nil => simp [insR]
        | cons y o ih =>
          simp only [insR]
          split
          · simp
          · split
            · simp
            · simp only [List.length_cons]; omega
      rw [List.length_cons]
      omega
  have := key xs []
  simpa [relCanon, canonL] using this
set_option maxRecDepth 100000 in
set_option maxHeartbeats 4000000 in
theorem made_any (lo lc hc : Nat) (cols : List S) (cv : Value) (xs : List (List V)) (hs : List Value) (v : Value) (w : World) (hcols : Strs lc hc w cv cols) (hhc : hc ≤ lo) (hlo : lo ≤ w.heap.size) (h : OwnR lo w v hs xs) (hlen : xs.length ≤ 1000000000000) (R : Ending → World → Prop)
    (hbad : (32 < cols.length ∨ 100000 < (relCanon xs).length) → ∀ w', Below lo w w' → w.heap.size ≤ w'.heap.size → R (.returned (.tuple #[.agg #[.slice none 0 0, .slice none 0 0], .int .i64 140])) w')
    (hok : cols.length ≤ 32 → (relCanon xs).length ≤ 100000 → ∀ w' cv' lv hs', Below lo w w' → w.heap.size ≤ w'.heap.size → OwnT w.heap.size w' cv' cols → OwnR lo w' lv hs' (relCanon xs) → R (.returned (.tuple #[.agg #[cv', lv], .int .i64 0])) w') :
    Calls Try.prog 70 #[cv, v] w R := by
  have Hbad := Lib.hid hbad
  have Hok := Lib.hid hok
  have Hcols := Lib.hid hcols
  have H := Lib.hid h
  obtain ⟨ac, cc, rfl, -, -, -, -⟩ := hcols.form
  obtain ⟨av, cv2, hv⟩ := Own.slice h.own
  clear hbad hok hcols h
  have hB0 := alloc_below w (.cells #[.slice none 0 0, .slice none 0 0] 34)
  have hb0 := Blk.new w [.slice none 0 0, .slice none 0 0] 34 rfl
  subst hv
  go_enter Try.func70, Try.ntmps70
  go_upto_region 1 with fail
  generalize w.alloc (.cells #[.slice none 0 0, .slice none 0 0] 34) = w0 at *
  have HB0 := Lib.hid hB0
  have Hb0 := Lib.hid hb0
  have hz0 := hB0.size
  have hb0l := hb0.lt
  have H0 := Lib.hid (H.out.kept hB0)
  clear hB0 hb0
  go_wp2_with fail
  have hapt : ∀ z, (Value.slice av hs.length cv2).ownBlock = some z → lo ≤ z ∧ z ≠ w.heap.size := fun z hz => by
    have := Own.lt H.out.own z hz
    omega
  have Hapt := Lib.hid hapt
  clear hapt
  refine sortRows_any lo _ hs xs w0 H0.out hlen _ (fun w1 hs1 xs1 hO1 h1 hp1 hup1 => ?_)
  have Hcan : Hid (compactL cmpR xs1 = relCanon xs) := Lib.hid (compact_canon cmpR_cmp hup1 (fun x => hp1.mem_iff))
  have hl1 : xs1.length ≤ 1000000000000 := by rw [hp1.length_eq]; exact hlen
  have HO1 := Lib.hid hO1
  have H1 := Lib.hid h1
  have hlen1 : hs1.length = hs.length := by
    obtain ⟨p, c, e⟩ := Own.slice h1.own
    injection e with _ e _
    exact e.symm
  clear hO1 h1 hp1 hup1
  go_wp2_with fail
  refine compact_any lo _ hs1 xs1 w1 H1.out hl1 _ (fun w2 v2 hs2 hO2 h2 => ?_)
  rw [Hcan.out] at h2
  have HO2 := Lib.hid (HO1.out.trans hO2)
  have hB2 : Below lo w w2 := (HB0.out.mono hlo).trans (HO2.out.below (by omega) (fun z hz => (Hapt.out z hz).1))
  have hb2 : Blk w2 w.heap.size [.slice none 0 0, .slice none 0 0] 34 := HO2.out.blk Hb0.out (fun e => (Hapt.out _ e).2 rfl)
  have HB2 := Lib.hid hB2
  have Hb2 := Lib.hid hb2
  have hz2 := HO2.out.size
  have H2 := Lib.hid h2
  have hlr := h2.len
  have hcan := canon_len_le xs
  obtain ⟨p2, c2, e2⟩ := Own.slice h2.own
  rw [hlr] at e2
  subst e2
  obtain ⟨d0, d1⟩ := hb2.cells.c2
  have f0 := hb2.free 0
  have f1 := hb2.free 1
  clear hO2 h2 hB2 hlr
  have Hrv2 := Lib.hid (((hb2.set 0 (.slice none 0 0)).set 1 (.slice none 0 0)).cells.runVar (P := Try.prog) (t := 34) (fun _ => by kernel_rfl) (fun _ => by kernel_rfl))
  have HBs := Lib.hid ((HB2.out.setCell (p := ⟨w.heap.size, 0, none⟩) hlo (.slice none 0 0)).setCell (p := ⟨w.heap.size, 1, none⟩) hlo (.slice none 0 0))
  clear hb2
  simp only [Nat.zero_add] at d1
  obtain ⟨m, hm⟩ : ∃ m, m = (relCanon xs).length := ⟨_, rfl⟩
  obtain ⟨q, hq⟩ : ∃ q, q = cols.length := ⟨_, rfl⟩
  rw [← hm, ← hq]
  have Hm := Lib.hid hm
  have Hq := Lib.hid hq
  clear hm hq hcan
  by_cases h32 : 32 < q
  · have c32 : (32 : Int) < (q : Int) := by omega
    have hr := Hbad.out (.inl (by rw [← Hq.out]; exact h32)) _ HBs.out (by simp; omega)
    have Hr := Lib.hid hr
    clear hr
    go_wp2_with fail
    exact ret_cell_tmp rfl rfl Hrv2.out rfl rfl Hr.out
  · have c32 : ¬ (32 : Int) < (q : Int) := by omega
    by_cases h10 : 100000 < m
    · have c10 : (100000 : Int) < (m : Int) := by omega
      have hr := Hbad.out (.inr (by rw [← Hm.out]; exact h10)) _ HBs.out (by simp; omega)
      have Hr := Lib.hid hr
      clear hr
      go_wp2_with fail
      exact ret_cell_tmp rfl rfl Hrv2.out rfl rfl Hr.out
    · have c10 : ¬ (100000 : Int) < (m : Int) := by omega
      clear Hrv2 HBs
      go_wp2_with fail
      rw [Hq.out]
      refine CloneStr_any lc hc cols _ w2 (Sl.below Hcols.out Strs.loc HB2.out hhc) (by omega) (by rw [← Hq.out]; omega) _ (fun w3 v3 hB3 ho3 => ?_)
      have hb3 := Hb2.out.below hB3 (by omega)
      have hrv := ((hb3.set 0 v3).set 1 (.slice p2 m c2)).cells.runVar (P := Try.prog) (t := 34) (fun _ => by kernel_rfl) (fun _ => by kernel_rfl)
      have h3 := H2.out.kept hB3
      have hT := (Own.setOther (Own.setOther ho3 (p := ⟨w.heap.size, 0, none⟩) (Own.ne_blk ho3 hb3 (by decide)) v3) (p := ⟨w.heap.size, 1, none⟩) (Own.ne_blk ho3 hb3 (by decide)) (.slice p2 m c2))
      have hR3 := (h3.setBlk hb3 (by decide) (by decide) 0 v3).setBlk (hb3.set 0 v3) (by decide) (by decide) 1 (.slice p2 m c2)
      have hB3' := ((HB2.out.trans (hB3.mono (by omega))).setCell (p := ⟨w.heap.size, 0, none⟩) hlo v3).setCell (p := ⟨w.heap.size, 1, none⟩) hlo (.slice p2 m c2)
      have hz3 := hB3.size
      have hr := Hok.out (by rw [← Hq.out]; omega) (by rw [← Hm.out]; omega) _ v3 _ hs2 hB3' (by simp; omega) (Own.lower hT (by omega)) hR3
      rw [← Hm.out] at hr
      obtain ⟨p3, c3, rfl⟩ := Own.slice ho3
      obtain ⟨d0, d1⟩ := hb3.cells.c2
      have f0 := hb3.free 0
      have f1 := hb3.free 1
      simp only [Nat.zero_add] at d1
      have Hr := Lib.hid hr
      have Hrv := Lib.hid hrv
      clear hb3 hrv h3 hT hR3 hB3' hr ho3 hB3
      go_wp2_with fail
      exact ret_cell_tmp rfl rfl Hrv.out rfl rfl Hr.out
end Go.Proofs.Ytpncblagjkbemaa
