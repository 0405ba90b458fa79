/- disk.Read, Safe, Pull, Fuse, Down, Ops, Len. -/
import Derived.Test.YtfmpafheodpfoaaDiskBy
import Derived.Test.YtfmpafheodpfoaaClone
namespace Go.Proofs.Ytfmpafheodpfoaa
open Go.RowKit

theorem DkIn.last_length {w : World} {S : Nat → Prop} {db sb wb kS kW : Nat} {ws : List Value} {d : Dk} (h : DkIn w S db sb wb kS kW ws d) (i : Nat) (hi : i < d.safe.length) : (d.last i).length = 128 := by
  rw [Dk.last_eq d i hi h.lr.symm]
  split
  · exact h.ls _ (List.getElem_mem hi)
  · exact h.lwr _ (List.getElem_mem _) _ (List.getLast_mem _)
theorem Bytes.ofSec {w : World} {b o lo hi : Nat} {s : List UInt8} (h : CellsAt w b o (secE s)) (hl : s.length = 128) (h1 : lo ≤ b) (h2 : b < hi) : Bytes lo hi w (.slice (some ⟨b, o, none⟩) 128 128) s := by
  refine ⟨_, 128, by rw [hl], by omega, by simp [maxLen], (fun h => by cases h), fun _ => ⟨b, o, rfl, h1, h2, fun k hk => ⟨bE s[k], rfl, fun j v e => ?_, rfl⟩⟩⟩
  have hj : j = 0 := by have := (List.getElem?_eq_some_iff.1 e).1; simp [bE] at this; exact this
  subst hj
  have := h k (.int .u8 s[k].toNat) (by rw [secE, flatMap_bE]; simp [hk])
  simp only [bE, List.getElem?_cons_zero, Option.some.injEq] at e
  subst e
  simpa using this

set_option maxRecDepth 100000 in
set_option maxHeartbeats 4000000 in
theorem Read_any (S : Nat → Prop) (lo db : Nat) (d : Dk) (i : Int) (w : World) (hlo : lo ≤ w.heap.size) (h : DkAt w S db d) (R : Ending → World → Prop)
    (hR0 : upE d.safe.length d.down i ≠ 0 → R (.returned (.tuple #[.slice none 0 0, .int .i64 (upE d.safe.length d.down i)])) w)
    (hR : ∀ w' v', upE d.safe.length d.down i = 0 → Below w.heap.size w w' → OwnB lo w' v' (d.last i.toNat) → R (.returned (.tuple #[v', .int .i64 0])) w') : Calls Try.prog 14 #[.pointer (some ⟨db, 0, none⟩), .int .i64 i] w R := by
  obtain ⟨sb, wb, kS, kW, ws, h⟩ := h
  have HR := Lib.hid hR
  have H := Lib.hid h
  have hpos := h.pos
  clear hR h
  go_enter Try.func14, Try.ntmps14
  go_wp2_with fail
  refine up_any db _ _ _ _ _ _ _ i w H.out.hd hpos _ ?_
  by_cases he : upE d.safe.length d.down i = 0
  · have hr := fun w' v' => HR.out w' v' he
    rw [he]
    have hb : 0 ≤ i ∧ i < (d.safe.length : Int) := by
      simp only [upE] at he
      constructor <;> (split at he <;> first | omega | (split at he <;> first | omega | (rename_i h1; omega)))
    obtain ⟨n, rfl⟩ := Int.eq_ofNat_of_zero_le hb.1
    clear he hR0
    go_wp2_with fail
    refine bytes_any S db sb wb kS kW ws d n (by omega) w H.out _ fun w1 hB1 => ?_
    have hl := H.out.last_length n (by omega)
    rw [Int.toNat_natCast] at hr
    generalize d.last n = s at *
    have hzv := zeroS_run
    have hz0 : zeroS.length = 128 := by simp [zeroS]
    have hn1 : Blk (w1.alloc (.cells (secE zeroS).toArray 73)) w1.heap.size (secE zeroS) 73 := Blk.new _ _ _ rfl
    have hB2 : Below w.heap.size w (w1.alloc (.cells (secE zeroS).toArray 73)) := hB1.alloc hB1.size _
    have hth := there_sec hn1.cells hz0 hn1.free
    have hbl := blk_set1 hn1 hz0 s hl
    have hB3 := belowSetCells hB2 hB1.size 0 (secE s)
    have Hbl := Lib.hid hbl
    have hlt := hbl.lt
    have hag : ∀ w : World, True := fun _ => trivial
    clear hn1 hbl
    generalize hW1 : (w1.alloc (.cells (secE zeroS).toArray 73)) = W1 at *
    go_wp2_with (first | refine atLoadS rfl rfl rfl (by assumption) (by assumption) ?_ | refine atStoreS rfl rfl rfl rfl (by assumption) (by assumption) ?_)
    refine Clone_any lo 0 _ s _ _ (Bytes.ofSec Hbl.out.cells hl (Nat.zero_le _) hlt) (by rw [setCells_size]; have := hB2.size; omega) (Nat.le_refl _) (by omega) _ fun w2 v2 hB4 ho => ?_
    have hr2 := hr w2 v2 (hB3.trans (hB4.mono (by rw [setCells_size]; exact hB2.size))) ho
    go_wp2_with fail
    all_goals first | exact hr2 | exact fin hr2 rfl
  · have hr := hR0 he
    generalize upE d.safe.length d.down i = e at *
    go_wp2_with fail
    all_goals first | exact he | exact hr | exact fin hr rfl

def safeE (n : Nat) (i : Int) : Int := if i < 0 ∨ (n : Int) ≤ i then 211 else 0
set_option maxRecDepth 100000 in
set_option maxHeartbeats 4000000 in
theorem Safe_any (S : Nat → Prop) (lo db : Nat) (d : Dk) (i : Int) (w : World) (hlo : lo ≤ w.heap.size) (h : DkAt w S db d) (R : Ending → World → Prop)
    (hR0 : safeE d.safe.length i ≠ 0 → R (.returned (.tuple #[.slice none 0 0, .int .i64 211])) w)
    (hR : ∀ w' v', safeE d.safe.length i = 0 → Below w.heap.size w w' → OwnB lo w' v' (d.safe.getD i.toNat []) → R (.returned (.tuple #[v', .int .i64 0])) w') : Calls Try.prog 25 #[.pointer (some ⟨db, 0, none⟩), .int .i64 i] w R := by
  obtain ⟨sb, wb, kS, kW, ws, h⟩ := h
  have HR := Lib.hid hR
  have H := Lib.hid h
  have hpos := h.pos
  obtain ⟨c0, -, -, -, -⟩ := h.hd.cells.c5
  clear hR h
  go_enter Try.func25, Try.ntmps25
  go_wp2_with fail
  refine none_any db _ _ _ _ _ _ _ w H.out.hd hpos _ ?_
  by_cases h0 : i < 0
  · have hr := hR0 (by simp [safeE, h0])
    clear hR0
    go_wp2_with fail
    all_goals first | exact hr | exact fin hr rfl
  · by_cases h1 : (d.safe.length : Int) ≤ i
    · have hr := hR0 (by simp [safeE, h1])
      clear hR0
      go_wp2_with fail
      all_goals first | exact hr | exact fin hr rfl
    · obtain ⟨n, rfl⟩ := Int.eq_ofNat_of_zero_le (Int.not_lt.1 h0)
      have hr := fun w' v' => HR.out w' v' (by simp [safeE]; omega)
      have hn : n < d.safe.length := by omega
      have hcs := sec_at' H.out.hs H.out.ls n hn
      have hl := H.out.ls _ (List.getElem_mem hn)
      have hlt := H.out.hs.lt
      have e2 : d.safe.getD n [] = d.safe[n] := by simp [List.getD, List.getElem?_eq_getElem hn]
      rw [Int.toNat_natCast, e2] at hr
      generalize d.safe[n] = s at *
      have Hcs := Lib.hid hcs
      clear hR0 hcs
      go_wp2_with fail
      refine Clone_any lo 0 _ s _ _ (Bytes.ofSec Hcs.out hl (Nat.zero_le _) hlt) hlo (Nat.le_refl _) (by omega) _ fun w2 v2 hB4 ho => ?_
      have hr2 := hr w2 v2 hB4 ho
      go_wp2_with fail
      all_goals first | exact hr2 | exact fin hr2 rfl

set_option maxRecDepth 100000 in
theorem Down_any (S : Nat → Prop) (db : Nat) (d : Dk) (w : World) (h : DkAt w S db d) (R : Ending → World → Prop)
    (hR : R (.returned (.bool d.down)) w) : Calls Try.prog 17 #[.pointer (some ⟨db, 0, none⟩)] w R := by
  obtain ⟨sb, wb, kS, kW, ws, h⟩ := h
  have H := Lib.hid h
  have hpos := h.pos
  obtain ⟨-, -, -, c3, -⟩ := h.hd.cells.c5
  simp only [Nat.zero_add] at c3
  clear h
  go_enter Try.func17, Try.ntmps17
  go_wp2_with fail
  refine none_any db _ _ _ _ _ _ _ w H.out.hd hpos _ ?_
  go_wp2_with fail
  all_goals first | exact hR | exact fin hR rfl

set_option maxRecDepth 100000 in
theorem Ops_any (S : Nat → Prop) (db : Nat) (d : Dk) (w : World) (h : DkAt w S db d) (R : Ending → World → Prop)
    (hR : R (.returned (.int .i64 d.ops)) w) : Calls Try.prog 24 #[.pointer (some ⟨db, 0, none⟩)] w R := by
  obtain ⟨sb, wb, kS, kW, ws, h⟩ := h
  have H := Lib.hid h
  have hpos := h.pos
  obtain ⟨-, -, -, -, c4⟩ := h.hd.cells.c5
  simp only [Nat.zero_add] at c4
  clear h
  go_enter Try.func24, Try.ntmps24
  go_wp2_with fail
  refine none_any db _ _ _ _ _ _ _ w H.out.hd hpos _ ?_
  go_wp2_with fail
  all_goals first | exact hR | exact fin hR rfl

set_option maxRecDepth 100000 in
theorem Len_any (S : Nat → Prop) (db : Nat) (d : Dk) (w : World) (h : DkAt w S db d) (R : Ending → World → Prop)
    (hR : R (.returned (.int .i64 d.safe.length)) w) : Calls Try.prog 27 #[.pointer (some ⟨db, 0, none⟩)] w R := by
  obtain ⟨sb, wb, kS, kW, ws, h⟩ := h
  have H := Lib.hid h
  have hpos := h.pos
  obtain ⟨c0, -, -, -, -⟩ := h.hd.cells.c5
  clear h
  go_enter Try.func27, Try.ntmps27
  go_wp2_with fail
  refine none_any db _ _ _ _ _ _ _ w H.out.hd hpos _ ?_
  go_wp2_with fail
  all_goals first | exact hR | exact fin hR rfl

/-- Another head, the rest as it was. -/
theorem DkIn.head {w w' : World} {S : Nat → Prop} {db sb wb kS kW : Nat} {ws : List Value} {d : Dk} (h : DkIn w S db sb wb kS kW ws d) (fuse : Int) (down : Bool) (ops : Int) (hb : ∀ k, k ≠ db → w'.heap[k]? = w.heap[k]?)
    (hh : Hd w' db (.slice (some ⟨sb, 0, none⟩) d.safe.length kS) (.slice (some ⟨wb, 0, none⟩) d.safe.length kW) fuse down ops) : DkIn w' S db sb wb kS kW ws ⟨d.safe, d.writes, fuse, down, ops⟩ where
  hd := hh
  hs := h.hs.keep (hb sb (Ne.symm h.ds))
  hw := h.hw.keep (hb wb (Ne.symm h.dw))
  lw := h.lw
  lr := h.lr
  row := fun i h1 h2 => ⟨(h.row i h1 h2).1, (h.row i h1 h2).2.same fun g hg => hb g (h.mine i h1 g hg).2.1⟩
  apart := h.apart
  mine := h.mine
  sd := h.sd
  ss := h.ss
  sw := h.sw
  ds := h.ds
  dw := h.dw
  sbw := h.sbw
  ls := h.ls
  lwr := h.lwr
  pos := h.pos
  cap := h.cap

set_option maxRecDepth 100000 in
theorem Pull_any (S : Nat → Prop) (db : Nat) (d : Dk) (w : World) (h : DkAt w S db d) (R : Ending → World → Prop)
    (hR : ∀ w', Only (· = db) w w' → w'.heap.size = w.heap.size → DkAt w' S db ⟨d.safe, d.writes, d.fuse, true, d.ops⟩ → R (.returned (.int .i64 0)) w') : Calls Try.prog 15 #[.pointer (some ⟨db, 0, none⟩)] w R := by
  obtain ⟨sb, wb, kS, kW, ws, h⟩ := h
  have H := Lib.hid h
  have hpos := h.pos
  obtain ⟨-, -, -, c3, -⟩ := h.hd.cells.c5
  simp only [Nat.zero_add] at c3
  have f3 := h.hd.free 3
  have hr := hR (w.setCell ⟨db, 3, none⟩ (.bool true)) (Only.setCell (A := (· = db)) w (p := ⟨db, 3, none⟩) rfl _) (by simp [World.setCell]) ⟨sb, wb, kS, kW, ws, h.head _ _ _ (fun k hk => Below.heap_setCell _ _ _ _ hk) (h.hd.set 3 (.bool true))⟩
  clear h hR
  go_enter Try.func15, Try.ntmps15
  go_wp2_with fail
  refine none_any db _ _ _ _ _ _ _ w H.out.hd hpos _ ?_
  go_wp2_with fail
  all_goals first | exact hr | exact fin hr rfl

set_option maxRecDepth 100000 in
theorem Fuse_any (S : Nat → Prop) (db : Nat) (d : Dk) (n : Int) (w : World) (h : DkAt w S db d) (R : Ending → World → Prop)
    (hR0 : n < 0 → R (.returned (.int .i64 2)) w)
    (hR : 0 ≤ n → ∀ w', Only (· = db) w w' → w'.heap.size = w.heap.size → DkAt w' S db ⟨d.safe, d.writes, n, d.down, d.ops⟩ → R (.returned (.int .i64 0)) w') : Calls Try.prog 23 #[.pointer (some ⟨db, 0, none⟩), .int .i64 n] w R := by
  obtain ⟨sb, wb, kS, kW, ws, h⟩ := h
  have H := Lib.hid h
  have hpos := h.pos
  obtain ⟨-, -, c2, -, -⟩ := h.hd.cells.c5
  simp only [Nat.zero_add] at c2
  have f2 := h.hd.free 2
  by_cases hn : n < 0
  · have hr := hR0 hn
    clear h hR hR0
    go_enter Try.func23, Try.ntmps23
    go_wp2_with fail
    refine none_any db _ _ _ _ _ _ _ w H.out.hd hpos _ ?_
    go_wp2_with fail
    all_goals first | exact hr | exact fin hr rfl
  · have hr := hR (Int.not_lt.1 hn) (w.setCell ⟨db, 2, none⟩ (.int .i64 n)) (Only.setCell (A := (· = db)) w (p := ⟨db, 2, none⟩) rfl _) (by simp [World.setCell]) ⟨sb, wb, kS, kW, ws, h.head _ _ _ (fun k hk => Below.heap_setCell _ _ _ _ hk) (h.hd.set 2 (.int .i64 n))⟩
    clear h hR hR0
    go_enter Try.func23, Try.ntmps23
    go_wp2_with fail
    refine none_any db _ _ _ _ _ _ _ w H.out.hd hpos _ ?_
    go_wp2_with fail
    all_goals first | exact hr | exact fin hr rfl
end Go.Proofs.Ytfmpafheodpfoaa
