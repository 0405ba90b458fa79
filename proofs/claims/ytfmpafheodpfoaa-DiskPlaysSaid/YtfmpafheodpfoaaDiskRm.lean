/- The document's disk: New, Copy: the walks. -/
import Derived.Test.YtfmpafheodpfoaaDiskRn
import Derived.Deep.CutBlock
namespace Go.Proofs.Ytfmpafheodpfoaa
open Go.RowKit
attribute [local go_sem ↓] Go.wp_at_zero Go.wp_at_succ
set_option linter.unusedVariables false
set_option linter.unusedSimpArgs false

theorem runDk {w : World} {b : Nat} {v0 v1 v2 v3 : Value} (h : CellsAt w b 0 [v0, v1, v2, v3]) : (loadVar 49 ⟨b, 0, none⟩).run Try.prog w = .ok (.agg #[v0, v1, v2, v3]) w := h.runVar (fun _ => by kernel_rfl) (fun _ => by kernel_rfl)
set_option maxRecDepth 100000 in
set_option maxHeartbeats 4000000 in
theorem NewR_bad (n : Int) (hn : n < 1 ∨ 65536 < n) (w : World) (R : Ending → World → Prop)
    (hR : ∀ w', Below w.heap.size w w' → R (.returned (.tuple #[.agg #[.slice none 0 0, .int .i64 0, .bool false, .int .i64 0], .int .i64 2])) w') :
    Calls Try.prog 19 #[.int .i64 n] w R := by
  have hb := Blk.new w [.slice none 0 0, .int .i64 0, .bool false, .int .i64 0] 49 rfl
  have hres := runDk hb.cells
  have hr := hR _ ((Below.refl _ _).alloc (Nat.le_refl _) (.cells #[.slice none 0 0, .int .i64 0, .bool false, .int .i64 0] 49))
  clear hR hb
  by_cases h1 : n < 1
  · clear hn
    go_enter Try.func19, Try.ntmps19
    go_wp2_with fail
    exact ret_cell_tmp rfl rfl hres rfl rfl hr
  · have h2 : 65536 < n := by omega
    clear hn
    go_enter Try.func19, Try.ntmps19
    go_wp2_with fail
    exact ret_cell_tmp rfl rfl hres rfl rfl hr

theorem CellsAt.c1' {w : World} {b o : Nat} {v0 : Value} {r : List Value} (h : CellsAt w b o (v0 :: r)) : w.cell? ⟨b, o, none⟩ = some v0 := h 0 _ rfl
theorem alloc_below' (w : World) (o : Obj) : Below w.heap.size w (w.alloc o) := (Below.refl _ _).alloc (Nat.le_refl _) _
theorem rep_succ {α : Type} (n : Nat) (a : α) : List.replicate n a ++ [a] = List.replicate (n + 1) a := by rw [List.replicate_succ']
set_option maxRecDepth 100000 in
set_option maxHeartbeats 4000000 in
theorem NewR_any (n : Nat) (hn0 : 1 ≤ n) (hn : n ≤ 65536) (w : World) (R : Ending → World → Prop)
    (hR : ∀ w' lv ws, Below w.heap.size w w' → RowsAt w.heap.size w' lv ws (List.replicate n [zeroS]) → R (.returned (.tuple #[.agg #[lv, .int .i64 (-1), .bool false, .int .i64 0], .int .i64 0])) w') :
    Calls Try.prog 19 #[.int .i64 n] w R := by
  have HR := Lib.hid hR
  obtain ⟨zs, ezs⟩ : ∃ zs : List UInt8, zs = zeroS := ⟨_, rfl⟩
  have hzl : zs.length = 128 := by rw [ezs]; simp [zeroS]
  have hmk : ∀ W : World, (Instr.makeSlice 30 (.int .i64 128) (.int .i64 128)).run Try.prog W = .ok (.slice (some ⟨W.heap.size, 0, none⟩) 128 128) (W.alloc (.cells (zs.flatMap bE).toArray 5)) := fun W => by rw [ezs]; exact run_mk 128 (by decide) W
  have hb2 := ((Blk.new w [.slice none 0 0, .int .i64 0, .bool false, .int .i64 0] 49 rfl).alloc (.cells #[.slice none 0 0, .int .i64 (-1), .bool false, .int .i64 0] 49)).alloc (.cells (zs.flatMap bE).toArray 5)
  have hb4 := (Blk.new (n := w.heap.size + 1) (w.alloc (.cells #[.slice none 0 0, .int .i64 0, .bool false, .int .i64 0] 49)) [.slice none 0 0, .int .i64 (-1), .bool false, .int .i64 0] 49 (by simp)).alloc (.cells (zs.flatMap bE).toArray 5)
  have hbz := Blk.new (n := w.heap.size + 2) ((w.alloc (.cells #[.slice none 0 0, .int .i64 0, .bool false, .int .i64 0] 49)).alloc (.cells #[.slice none 0 0, .int .i64 (-1), .bool false, .int .i64 0] 49)) (zs.flatMap bE) 5 (by simp)
  have hBw : Below w.heap.size w (((w.alloc (.cells #[.slice none 0 0, .int .i64 0, .bool false, .int .i64 0] 49)).alloc (.cells #[.slice none 0 0, .int .i64 (-1), .bool false, .int .i64 0] 49)).alloc (.cells (zs.flatMap bE).toArray 5)) := (((Below.refl _ _).alloc (Nat.le_refl _) _).alloc (by simp) _).alloc (by simp; omega) _
  have hsz : (((w.alloc (.cells #[.slice none 0 0, .int .i64 0, .bool false, .int .i64 0] 49)).alloc (.cells #[.slice none 0 0, .int .i64 (-1), .bool false, .int .i64 0] 49)).alloc (.cells (zs.flatMap bE).toArray 5)).heap.size = w.heap.size + 3 := by simp
  have hcv : (convert 30 9 (.slice (some ⟨w.heap.size + 2, 0, none⟩) 128 128)).run Try.prog (((w.alloc (.cells #[.slice none 0 0, .int .i64 0, .bool false, .int .i64 0] 49)).alloc (.cells #[.slice none 0 0, .int .i64 (-1), .bool false, .int .i64 0] 49)).alloc (.cells (zs.flatMap bE).toArray 5)) = .ok (.string ⟨zs.toArray⟩) (((w.alloc (.cells #[.slice none 0 0, .int .i64 0, .bool false, .int .i64 0] 49)).alloc (.cells #[.slice none 0 0, .int .i64 (-1), .bool false, .int .i64 0] 49)).alloc (.cells (zs.flatMap bE).toArray 5)) := by
    have := str (Bytes.ofCells (c := 128) (l := zs) (lo := 0) (hi := w.heap.size + 3) hbz.cells (Nat.zero_le _) (by omega) (by omega) (by simp [maxLen]))
    rw [hzl] at this
    exact this
  have n1 : ¬ ((n : Int) < 1) := by omega
  have n2 : ¬ (65536 < (n : Int)) := by omega
  have hs2 : ((w.alloc (.cells #[.slice none 0 0, .int .i64 0, .bool false, .int .i64 0] 49)).alloc (.cells #[.slice none 0 0, .int .i64 (-1), .bool false, .int .i64 0] 49)).heap.size = w.heap.size + 2 := by simp
  have Hezs := Lib.hid ezs
  have Hzl := Lib.hid hzl
  have Hsz := Lib.hid hsz
  clear hR hbz hs2 hsz ezs hzl
  go_enter Try.func19, Try.ntmps19
  go_upto_region 5 with fail
  generalize ((w.alloc (.cells #[.slice none 0 0, .int .i64 0, .bool false, .int .i64 0] 49)).alloc (.cells #[.slice none 0 0, .int .i64 (-1), .bool false, .int .i64 0] 49)).alloc (.cells (zs.flatMap bE).toArray 5) = w1 at *
  clear hcv hmk
  have hn65 : (n : Int) ≤ 65536 := by omega
  go_wp2_with fail
  go_loopw [6] (fun t6 wr => ∃ (i : Nat) (lv : Value) (ws : List Value), i ≤ n ∧ t6 = .int .i64 (i : Int) ∧ Below w.heap.size w wr ∧ w1.heap.size ≤ wr.heap.size ∧ Blk wr (w.heap.size + 1) [lv, .int .i64 (-1), .bool false, .int .i64 0] 49 ∧ Blk wr w.heap.size [.slice none 0 0, .int .i64 0, .bool false, .int .i64 0] 49 ∧ RowsAt w1.heap.size wr lv ws (List.replicate i [zs])) (fun t6 _ => n - (intOf t6).toNat)
  case atStart => exact ⟨0, _, [], Nat.zero_le _, rfl, hBw, Nat.le_refl _, hb4, hb2, RowsAt.nil _ _⟩
  case round =>
    obtain ⟨i, lv, ws, hi1, rfl, hB, hsr, hb, hb0, hrows⟩ := hrel
    have HB := Lib.hid hB
    have Hrows := Lib.hid hrows
    have Hb := Lib.hid hb
    have Hb0 := Lib.hid hb0
    have i0 : (0 : Int) ≤ (i : Int) := by omega
    obtain ⟨p3, c3, e3⟩ := Own.slice hrows.ol
    subst e3
    have hwl : ws.length = i := by rw [hrows.len, List.length_replicate]
    by_cases hil : i < n
    · have il : (i : Int) < (n : Int) := by omega
      have c0 := hb.cells.c1'
      have hlt1 : w.heap.size + 1 < wr.heap.size := hb.lt
      have hB1 := alloc_below' wr (.cells #[.string ⟨zs.toArray⟩] 9)
      have hB2 := hB1.trans (((Below.refl (wr.alloc (.cells #[.string ⟨zs.toArray⟩] 9)).heap.size _).alloc (Nat.le_refl _) (.cells #[.slice (some ⟨wr.heap.size, 0, none⟩) 1 1] 29)).mono hB1.size)
      have hv := Own.kept (ownG1 wr zs rfl wr.heap.size (Nat.le_refl _)) ((Below.refl (wr.alloc (.cells #[sV zs] 9)).heap.size _).alloc (Nat.le_refl _) (.cells #[.slice (some ⟨wr.heap.size, 0, none⟩) 1 1] 29))
      obtain ⟨lv2, w2, hrun, hr2, hBr, hsz2⟩ := hrows.add hsr hB2 hv (n := wr.heap.size + 1) (CellsAt.newAt (wr.alloc (.cells #[.string ⟨zs.toArray⟩] 9)) [.slice (some ⟨wr.heap.size, 0, none⟩) 1 1] 29 (by simp)) (by omega)
      obtain ⟨p4, n4, c4, e4⟩ : ∃ p n c, lv2 = .slice p n c := by obtain ⟨p, c, e⟩ := Own.slice hr2.ol; exact ⟨p, _, c, e⟩
      subst e4
      have hz1 := Hsz.out
      have hb' := Hb.out.below hBr (by omega)
      have hb0' := Hb0.out.below hBr (by omega)
      have f0 := hb'.free 0
      have y0 := hb'.cells.c1'
      have hsz3 := hBr.size
      have HBn := Lib.hid ((HB.out.trans (hBr.mono (by omega))).setCell (p := ⟨w.heap.size + 1, 0, none⟩) (Nat.le_succ _) (.slice p4 n4 c4))
      have Hbn := Lib.hid (hb'.set 0 (.slice p4 n4 c4))
      have Hb0n := Lib.hid (hb0'.other (p := ⟨w.heap.size + 1, 0, none⟩) (by simp only; omega) (.slice p4 n4 c4))
      have Hrn := Lib.hid (hr2.same (w' := w2.setCell ⟨w.heap.size + 1, 0, none⟩ (.slice p4 n4 c4)) (fun k hk _ => Below.heap_setCell _ _ _ _ (by simp only; omega)))
      have Hszn : Hid (w1.heap.size ≤ (w2.setCell ⟨w.heap.size + 1, 0, none⟩ (.slice p4 n4 c4)).heap.size) := Lib.hid (by simp only [World.setCell, Array.size_modify]; omega)
      have i9 : (i : Int) + 1 ≤ 65536 := by omega
      clear hB hb hb0 hrows hB1 hB2 hv hr2 hBr hb' hb0' hwl
      go_wp2_with (at_builtin; refine AtApp.of ?_)
      refine AtApp.go hrun rfl rfl rfl rfl ?_
      clear hrun
      go_wp2_with fail
      go_roundw
      case rel => exact ⟨i + 1, _, _, by omega, by go_num, HBn.out, Hszn.out, Hbn.out, Hb0n.out, by rw [← rep_succ]; exact Hrn.out⟩
      case measure => first | (simp [intOf]; done) | (simp [intOf]; omega)
    · have he : i = n := by omega
      subst he
      have c0 := Hb.out.cells.c4
      obtain ⟨x0, x1, x2, x3⟩ := c0
      obtain ⟨y0, y1, y2, y3⟩ := Hb0.out.cells.c4
      have f0 := Hb0.out.free 0
      have f1 := Hb0.out.free 1
      have f2 := Hb0.out.free 2
      have f3 := Hb0.out.free 3
      have hz1 := Hsz.out
      have hset := (((Hb0.out.set 0 (.slice p3 ws.length c3)).set 1 (.int .i64 (-1))).set 2 (.bool false)).set 3 (.int .i64 0)
      have hres := runDk hset.cells
      have hr := HR.out _ _ _ ((((HB.out.setCell (p := ⟨w.heap.size, 0, none⟩) (Nat.le_refl _) (.slice p3 ws.length c3)).setCell (p := ⟨w.heap.size, 1, none⟩) (Nat.le_refl _) (.int .i64 (-1))).setCell (p := ⟨w.heap.size, 2, none⟩) (Nat.le_refl _) (.bool false)).setCell (p := ⟨w.heap.size, 3, none⟩) (Nat.le_refl _) (.int .i64 0))
        ((by rw [← Hezs.out]; exact (Hrows.out.same (fun k hk _ => (Below.heap_setCell _ _ _ _ (by simp only; omega)).trans ((Below.heap_setCell _ _ _ _ (by simp only; omega)).trans ((Below.heap_setCell _ _ _ _ (by simp only; omega)).trans (Below.heap_setCell _ _ _ _ (by simp only; omega)))))).mono (by omega)))
      clear hB hb hb0 hrows hset hwl
      go_wp2_with fail
      exact ret_cell_tmp rfl rfl hres rfl rfl hr

set_option maxRecDepth 100000 in
set_option maxHeartbeats 4000000 in
theorem CopyR_any (S : Nat → Prop) (rb : Nat) (d : Dk) (w : World) (h : RfAt w S rb d) (hcnt : ∀ l ∈ d.writes, l.length ≤ 1000000) (R : Ending → World → Prop)
    (hR : ∀ w' lv ws, Below w.heap.size w w' → RowsAt w.heap.size w' lv ws (rowsOf d) → R (.returned (.agg #[lv, .int .i64 d.fuse, .bool d.down, .int .i64 d.ops])) w') :
    Calls Try.prog 21 #[.pointer (some ⟨rb, 0, none⟩)] w R := by
  obtain ⟨lb, c, ws0, h⟩ := h
  have HR := Lib.hid hR
  have H := Lib.hid h
  have hcap := h.cap
  have hrbl := h.lt.1
  obtain ⟨h0, h1, h2, h3⟩ := h.hd.cells.c4
  clear hR h
  go_enter Try.func21, Try.ntmps21
  have hb2 := (Blk.new w [.slice none 0 0, .int .i64 0, .bool false, .int .i64 0] 49 rfl).alloc (.cells #[.slice none 0 0, .int .i64 d.fuse, .bool d.down, .int .i64 d.ops] 49)
  have hb4 := Blk.new (n := w.heap.size + 1) (w.alloc (.cells #[.slice none 0 0, .int .i64 0, .bool false, .int .i64 0] 49)) [.slice none 0 0, .int .i64 d.fuse, .bool d.down, .int .i64 d.ops] 49 (by simp)
  have hBw : Below w.heap.size w ((w.alloc (.cells #[.slice none 0 0, .int .i64 0, .bool false, .int .i64 0] 49)).alloc (.cells #[.slice none 0 0, .int .i64 d.fuse, .bool d.down, .int .i64 d.ops] 49)) := ((Below.refl _ _).alloc (Nat.le_refl _) _).alloc (by simp) _
  have Hsz : Hid (((w.alloc (.cells #[.slice none 0 0, .int .i64 0, .bool false, .int .i64 0] 49)).alloc (.cells #[.slice none 0 0, .int .i64 d.fuse, .bool d.down, .int .i64 d.ops] 49)).heap.size = w.heap.size + 2) := Lib.hid (by simp)
  go_upto_region 3 with fail
  generalize (w.alloc (.cells #[.slice none 0 0, .int .i64 0, .bool false, .int .i64 0] 49)).alloc (.cells #[.slice none 0 0, .int .i64 d.fuse, .bool d.down, .int .i64 d.ops] 49) = w1 at *
  clear h0 h1 h2 h3
  go_wp2_with fail
  go_loopw [4] (fun t4 wr => ∃ (i : Nat) (lv : Value) (ws : List Value), i ≤ d.safe.length ∧ t4 = .int .i64 (i : Int) ∧ Below w.heap.size w wr ∧ w1.heap.size ≤ wr.heap.size ∧ Blk wr (w.heap.size + 1) [lv, .int .i64 d.fuse, .bool d.down, .int .i64 d.ops] 49 ∧ Blk wr w.heap.size [.slice none 0 0, .int .i64 0, .bool false, .int .i64 0] 49 ∧ RowsAt w1.heap.size wr lv ws ((rowsOf d).take i)) (fun t4 _ => d.safe.length - (intOf t4).toNat)
  case atStart => exact ⟨0, _, [], Nat.zero_le _, rfl, hBw, Nat.le_refl _, hb4, hb2, RowsAt.nil _ _⟩
  case round =>
    obtain ⟨i, lv, ws, hi1, rfl, hB, hsr, hb, hb0, hrows⟩ := hrel
    have HB := Lib.hid hB
    have Hrows := Lib.hid hrows
    have Hb := Lib.hid hb
    have Hb0 := Lib.hid hb0
    have i0 : (0 : Int) ≤ (i : Int) := by omega
    have Hr := Lib.hid (H.out.keep (w' := wr) (S' := S) (fun k _ hk => hB.block k hk) (fun _ e => e))
    have k0 := Hr.out.hd.cells.c1'
    have hwl : ws.length = i := by rw [hrows.len, List.length_take, rowsOf_len]; omega
    obtain ⟨p3, n3, c3, e3⟩ : ∃ p n c, lv = .slice p n c := by obtain ⟨p, c, e⟩ := Own.slice hrows.ol; exact ⟨p, _, c, e⟩
    subst e3
    by_cases hil : i < d.safe.length
    · have il : (i : Int) < (d.safe.length : Int) := by omega
      obtain ⟨g, c1, x0, x1, x2, -, -, -, hgw, hog, -⟩ := Hr.out.at i hil
      have hm : (d.writes.getD i []).length ≤ 1000000 := by
        by_cases hnw : i < d.writes.length
        · exact hcnt _ (by simp [List.getD, List.getElem?_eq_getElem hnw])
        · simp [List.getD, List.getElem?_eq_none (Nat.not_lt.1 hnw)]
      obtain ⟨v1, w2, hrun1, ho1, ha1⟩ := appG (w := wr) (lo := wr.heap.size) (Own.nil strE 9 1 _ _) (srcG hog) (by simp only [List.length_nil, List.length_cons]; omega) (Nat.le_refl _)
      rw [List.nil_append] at ho1
      have hB1 : Below wr.heap.size wr w2 := ha1.below (Nat.le_refl _) (fun k hk => by cases hk)
      obtain ⟨pv, nv, cv, ev⟩ : ∃ p n c, v1 = .slice p n c := by obtain ⟨p, c, e⟩ := Own.slice ho1; exact ⟨p, _, c, e⟩
      subst ev
      have hal := alloc_below' w2 (.cells #[.slice pv nv cv] 29)
      have hB2 := hB1.trans (hal.mono hB1.size)
      have hv := Own.kept ho1 hal
      obtain ⟨lv2, w3, hrun, hr2, hBr, hsz2⟩ := hrows.add hsr hB2 hv (n := w2.heap.size) (CellsAt.newAt w2 [.slice pv nv cv] 29 rfl) (by omega)
      have htk : (rowsOf d).take (i + 1) = (rowsOf d).take i ++ [d.safe.getD i [] :: d.writes.getD i []] := by
        rw [List.take_succ_eq_append_getElem (by rw [rowsOf_len]; exact hil)]
        simp [rowsOf]
      rw [← htk] at hr2
      obtain ⟨p4, n4, c4, e4⟩ : ∃ p n c, lv2 = .slice p n c := by obtain ⟨p, c, e⟩ := Own.slice hr2.ol; exact ⟨p, _, c, e⟩
      subst e4
      have hz1 := Hsz.out
      have hlt4 := hb.lt
      have c0 := (Hb.out.below hB1 hlt4).cells.c1'
      have hlt5 : w.heap.size + 1 < w2.heap.size := by have := hB1.size; omega
      have hb' := Hb.out.below hBr (by omega)
      have hb0' := Hb0.out.below hBr (by omega)
      have f0 := hb'.free 0
      have y0 := hb'.cells.c1'
      have hsz3 := hBr.size
      have HBn := Lib.hid ((HB.out.trans (hBr.mono (by omega))).setCell (p := ⟨w.heap.size + 1, 0, none⟩) (Nat.le_succ _) (.slice p4 n4 c4))
      have Hbn := Lib.hid (hb'.set 0 (.slice p4 n4 c4))
      have Hb0n := Lib.hid (hb0'.other (p := ⟨w.heap.size + 1, 0, none⟩) (by simp only; omega) (.slice p4 n4 c4))
      have Hrn := Lib.hid (hr2.same (w' := w3.setCell ⟨w.heap.size + 1, 0, none⟩ (.slice p4 n4 c4)) (fun k hk _ => Below.heap_setCell _ _ _ _ (by simp only; omega)))
      have Hszn : Hid (w1.heap.size ≤ (w3.setCell ⟨w.heap.size + 1, 0, none⟩ (.slice p4 n4 c4)).heap.size) := Lib.hid (by simp only [World.setCell, Array.size_modify]; omega)
      have i9 : (i : Int) + 1 ≤ 65536 := by omega
      clear hB hb hb0 hrows hal hB1 hB2 hv hr2 hBr hb' hb0' hwl htk ho1 ha1 hog
      go_wp2_with (at_builtin; refine AtApp.of ?_)
      refine AtApp.go hrun1 rfl rfl rfl rfl ?_
      clear hrun1
      go_wp2_with (at_builtin; refine AtApp.of ?_)
      refine AtApp.go hrun rfl rfl rfl rfl ?_
      clear hrun
      go_wp2_with fail
      go_roundw
      case rel => exact ⟨i + 1, _, _, by omega, by go_num, HBn.out, Hszn.out, Hbn.out, Hb0n.out, Hrn.out⟩
      case measure => first | (simp [intOf]; done) | (simp [intOf]; omega)
    · have he : i = d.safe.length := by omega
      subst he
      obtain ⟨x0, x1, x2, x3⟩ := Hb.out.cells.c4
      obtain ⟨y0, y1, y2, y3⟩ := Hb0.out.cells.c4
      have f0 := Hb0.out.free 0
      have f1 := Hb0.out.free 1
      have f2 := Hb0.out.free 2
      have f3 := Hb0.out.free 3
      have hz1 := Hsz.out
      have hset := (((Hb0.out.set 0 (.slice p3 n3 c3)).set 1 (.int .i64 d.fuse)).set 2 (.bool d.down)).set 3 (.int .i64 d.ops)
      have hres := runDk hset.cells
      have htk : (rowsOf d).take d.safe.length = rowsOf d := List.take_of_length_le (by rw [rowsOf_len]; exact Nat.le_refl _)
      have hr := HR.out _ _ _ ((((HB.out.setCell (p := ⟨w.heap.size, 0, none⟩) (Nat.le_refl _) (.slice p3 n3 c3)).setCell (p := ⟨w.heap.size, 1, none⟩) (Nat.le_refl _) (.int .i64 d.fuse)).setCell (p := ⟨w.heap.size, 2, none⟩) (Nat.le_refl _) (.bool d.down)).setCell (p := ⟨w.heap.size, 3, none⟩) (Nat.le_refl _) (.int .i64 d.ops))
        ((by rw [← htk]; exact (Hrows.out.same (fun k hk _ => (Below.heap_setCell _ _ _ _ (by simp only; omega)).trans ((Below.heap_setCell _ _ _ _ (by simp only; omega)).trans ((Below.heap_setCell _ _ _ _ (by simp only; omega)).trans (Below.heap_setCell _ _ _ _ (by simp only; omega)))))).mono (by omega)))
      clear hB hb hb0 hrows hset hwl htk
      go_wp2_with fail
      exact ret_cell rfl rfl hres rfl hr
end Go.Proofs.Ytfmpafheodpfoaa
