/- disk.Dirty: the walk. -/
import Derived.Test.YtfmpafheodpfoaaDiskUp
namespace Go.Proofs.Ytfmpafheodpfoaa
open Go.RowKit Go.Shelf
set_option linter.unusedVariables false
set_option linter.unusedSimpArgs false
attribute [local go_sem] Oper.semAt_some

def iE (i : Nat) : List Value := [.int .i64 (i : Int)]
abbrev OwnI := Own iE 3 1
theorem infoI : (Try.prog.info? 3).map (fun i => (i.zero, i.size, i.bytes)) = some (some (.int .i64 0), 1, 8) := by kernel_rfl
theorem appI1 {w : World} {lo : Nat} {v : Value} {xs : List Nat} (h : OwnI lo w v xs) (x : Nat) {n : Nat} (hn : n = w.heap.size) (hb : xs.length ≤ 1000000000) (hlo : lo ≤ w.heap.size) :
    ∃ v' w', (Builtin.append_ #[45, 45] 45 #[v, .slice (some ⟨n, 0, none⟩) 1 1]).run Try.prog (w.alloc (.cells #[.int .i64 (x : Int)] 3)) = .ok v' w' ∧ OwnI lo w' v' (xs ++ [x]) ∧ Appended w v w' v' := by
  subst hn
  have hB : Below w.heap.size w (w.alloc (.cells #[.int .i64 (x : Int)] 3)) := (Below.refl _ _).alloc (Nat.le_refl _) _
  obtain ⟨i0, hi, hz0, hz1, hz2⟩ := info_parts infoI
  have hc := CellsAt.newAt w (iE x) 3 rfl
  have hs : Src Try.prog 1 45 (.slice (some ⟨w.heap.size, 0, none⟩) 1 1) [x].length ([x].flatMap iE) (w.alloc (.cells #[.int .i64 (x : Int)] 3)) :=
    Src.ofSlice _ Try.underlying45 _ _ _ _ (by simp [iE]) (fun j u hu => by rw [Addr.add_lit]; exact hc j u (by simpa using hu)) (fun u hu => by simp [iE] at hu; subst hu; rfl)
  obtain ⟨v', w', hr, ho, ha⟩ := (Own.kept h hB).app _ _ _ i0 _ 8 Try.underlying45 hi hz0 hz1 hz2 rfl hs (by simp only [List.length_cons, List.length_nil]; omega) (by omega) (Nat.le_trans hlo hB.size)
  exact ⟨v', w', hr, ho, (Appended.step v hB).trans ha⟩
theorem OwnI.only {A : Nat → Prop} {lo : Nat} {w w' : World} {v : Value} {xs : List Nat} (h : OwnI lo w v xs) (ho : Only A w w') (hA : ∀ k, A k → k < lo) : OwnI lo w' v xs :=
  ⟨h.1, h.2.imp id fun ⟨g, cap, cur, e, hg, hh, hr⟩ => ⟨g, cap, cur, e, hg, (ho.block g (Array.getElem?_eq_some_iff.1 hh).1 (fun ha => by have := hA g ha; omega)).trans hh, hr⟩⟩
/-- The sectors ahead of one that have writes. -/
def dirtyTo (d : Dk) : Nat → List Nat
  | 0 => []
  | i + 1 => dirtyTo d i ++ if d.writes.getD i [] = [] then [] else [i]
theorem dirtyTo_length (d : Dk) : ∀ i, (dirtyTo d i).length ≤ i
  | 0 => Nat.le_refl _
  | i + 1 => by have := dirtyTo_length d i; simp only [dirtyTo]; split <;> simp <;> omega

set_option maxRecDepth 100000 in
set_option maxHeartbeats 8000000 in
theorem Dirty_any (S : Nat → Prop) (db : Nat) (d : Dk) (w : World) (h : DkAt w S db d) (R : Ending → World → Prop)
    (hR : ∀ w' v', Below w.heap.size w w' → OwnI w.heap.size w' v' (dirtyTo d d.safe.length) → R (.returned v') w') :
    Calls Try.prog 18 #[.pointer (some ⟨db, 0, none⟩)] w R := by
  obtain ⟨sb, wb, kS, kW, ws, h⟩ := h
  have HR := Lib.hid hR
  have hpos := h.pos
  have H := Lib.hid h
  clear hR h
  refine (callsIn_wide (n := 3)).1 (callsIn_of_wp_marks Try.func18 rfl trivial ?_ rfl)
  refine wpIn_wide.2 ?_
  simp only [Try.ntmps18, List.size_toArray, List.length_cons, Nat.reduceAdd, Nat.reduceSub, Array.replicate_succ, Array.replicate_zero, List.push_toArray, List.append_toArray, List.nil_append, List.cons_append, List.length_nil]
  go_wp2_with fail
  refine none_any db _ _ _ _ _ _ _ w H.out.hd hpos _ ?_
  go_wp2_with fail
  refine dirty_any db _ _ ?_
  go_wp2_with fail
  have hW : ∃ W, W = ((w.alloc (.cells #[.slice none 0 0] 45)).alloc (.cells #[.pointer (some ⟨db, 0, none⟩)] 25)) := ⟨_, rfl⟩
  obtain ⟨W4, hW4⟩ := hW
  have hB4 : Below w.heap.size w W4 := by
    rw [hW4]
    exact (((Below.refl _ _).alloc (Nat.le_refl _) _).alloc (by simp) _)
  have hs4 : W4.heap.size = w.heap.size + 2 := by rw [hW4]; simp
  have ho4 : Blk W4 w.heap.size [.slice none 0 0] 45 := by
    rw [hW4]
    exact (Blk.new _ [.slice none 0 0] 45 rfl).alloc _
  have hk4 : Blk W4 (w.heap.size + 1) [.pointer (some ⟨db, 0, none⟩)] 25 := by
    rw [hW4]
    exact Blk.new _ [.pointer (some ⟨db, 0, none⟩)] 25 (by simp)
  rw [← hW4]
  clear hW4
  have Ho4 := Lib.hid ho4
  clear ho4
  refine wp_rangeFuncR 2 (gf := 45) rfl (enters_of Try.func45 (by kernel_rfl) rfl) (fun fn RL hRL => ?_)
  have HRL := Lib.hid hRL
  clear hRL
  have hB5 : Below W4.heap.size W4 ((W4.alloc (.deferred (some []))).alloc (.loop (RL .ready none))) := ((Below.refl _ _).alloc (Nat.le_refl _) _).alloc (by simp) _
  have hlD : ((W4.alloc (.deferred (some []))).alloc (.loop (RL .ready none))).heap[W4.heap.size]? = some (.deferred (some [])) := (Below.heap_alloc _ _ _ (by simp)).trans (World.alloc_heap_new W4 _)
  have hlL : ((W4.alloc (.deferred (some []))).alloc (.loop (RL .ready none))).heap[W4.heap.size + 1]? = some (.loop (RL .ready none)) := by
    have := World.alloc_heap_new (W4.alloc (.deferred (some []))) (.loop (RL .ready none))
    rwa [World.size_alloc] at this
  have hs5 : ((W4.alloc (.deferred (some []))).alloc (.loop (RL .ready none))).heap.size = W4.heap.size + 2 := by simp
  generalize (W4.alloc (.deferred (some []))).alloc (.loop (RL .ready none)) = W5 at *
  have hB05 : Below w.heap.size w W5 := hB4.trans (hB5.mono (by omega))
  have hdbw := H.out.hd.lt
  have hwbw := H.out.hw.lt
  have cdb : W5.cell? ⟨db, 1, none⟩ = some (.slice (some ⟨wb, 0, none⟩) d.safe.length kW) := by
    have := (Blk.below H.out.hd hB05 hdbw).cells.c5.2.1
    rwa [Nat.zero_add] at this
  have hnn : d.safe.length ≤ 65536 := H.out.cap
  refine (dirty1_any (w.heap.size + 1) db wb d.safe.length 1 (W4.heap.size + 1) (fun i => (d.writes.getD i []).length)
    (fun i c W => Only (· = w.heap.size) W5 W ∧ (∃ v, Blk W w.heap.size [v] 45 ∧ OwnI (W4.heap.size + 2) W v (dirtyTo d i)) ∧ W.heap[W4.heap.size + 1]? = some (.loop (RL .ready none)) ∧ W.heap[W4.heap.size]? = some (.deferred (some [])))
    ?hcell ?hskip ?hY W5 ?hJ0 (hk4.below hB5 (by omega)).cells.c1 cdb hnn).mono ?hend
  case hJ0 => exact ⟨Only.refl _ _, ⟨_, Ho4.out.below hB5 (by omega), Own.nil _ _ _ _ _⟩, hlL, hlD⟩
  case hcell =>
    rintro i c W ⟨j1, -⟩ hi
    obtain ⟨ao, cap, hc⟩ := H.out.headW i hi
    exact ⟨ao, cap, (World.cell?_of_block ((j1.block wb (by have := hB05.size; omega) (by omega)).trans (hB05.block wb hwbw))).trans hc⟩
  case hskip =>
    rintro i c W ⟨j1, j2, j3, j4⟩ hi hz
    have hz' : d.writes.getD i [] = [] := List.eq_nil_of_length_eq_zero hz
    exact ⟨j1, by rw [dirtyTo, if_pos hz', List.append_nil]; exact j2, j3, j4⟩
  case hY =>
    rintro i c W ⟨j1, ⟨v, j2, j3⟩, j4, j5⟩ hi hci hz
    have hzn : ¬ d.writes.getD i [] = [] := fun e => hz (by rw [e]; rfl)
    have hsW := j1.size
    have hobW : w.heap.size < W.heap.size := by omega
    have hlW : W4.heap.size + 1 < W.heap.size := by omega
    have hol : (dirtyTo d i).length ≤ 1000000000 := by have := dirtyTo_length d i; omega
    have Hs5 := Lib.hid hs5
    have hs4' : w.heap.size + 2 ≤ W4.heap.size := by omega
    clear hs4 hs5 hlD hlL hB4 hB5 cdb
    generalize hL : W4.heap.size + 1 = L at *
    refine yieldAt_recR HRL.out j4 rfl ?_
    have Hj2 := Lib.hid j2
    have Hj3 := Lib.hid j3
    have Hj4 := Lib.hid j4
    have Hj5 := Lib.hid j5
    have Hj1 := Lib.hid j1
    have Hzn := Lib.hid hzn
    clear j1 j2 j3 j4 j5 hzn hz
    gi_wp2
    refine ⟨Hj4.out, ?_⟩
    have ho3 : Only (· = L) W (W.putObj L (.loop (RL .busy none))) := Only.putObj (A := (· = L)) W (b := L) rfl _
    have hl3 : (W.putObj L (.loop (RL .busy none))).heap[L]? = some (.loop (RL .busy none)) := World.putObj_heap_same (by omega)
    have hs3 : (W.putObj L (.loop (RL .busy none))).heap.size = W.heap.size := World.putObj_size
    generalize W.putObj L (.loop (RL .busy none)) = W3 at *
    have hob3 := ho3.blk Hj2.out (by omega)
    have hoP : OwnI (W4.heap.size + 2) W3 v (dirtyTo d i) := OwnI.only Hj3.out ho3 (fun k e => by omega)
    have hD3 : W3.heap[W4.heap.size]? = some (.deferred (some [])) := (ho3.block _ (by omega) (by omega)).trans Hj5.out
    have hB3 := Lib.hid ho3
    have c0 := hob3.cells.c1
    have f0 := hob3.free 0
    have hob3l := hob3.lt
    have Hob3 := Lib.hid hob3
    have HoP := Lib.hid hoP
    clear hob3 hoP ho3
    have hsB : W4.heap.size + 2 ≤ W3.heap.size := by have := Hs5.out; have := Hj1.out.size; omega
    gi_wp2_with (gi_at_builtin; refine AtApp.of ?_)
    obtain ⟨v8, W8, hr, ho8, ha8⟩ := appI1 HoP.out i (n := W.heap.size) hs3.symm hol hsB
    refine AtApp.goIn hr rfl rfl rfl rfl ?_
    obtain ⟨g8, cap8, rfl, g1, g2, g3, g4, -, -⟩ := Own.form ho8 (by simp)
    have hl8n : (dirtyTo d i ++ [i]).length = (dirtyTo d i).length + 1 := by simp
    rw [hl8n] at ho8 ha8 ⊢
    have hB8 : Below (W4.heap.size + 2) W3 W8 := ha8.below hsB (fun k e => (Own.lt HoP.out k e).1)
    have hob8 := Hob3.out.below hB8 (by omega)
    have hl8 : W8.heap[L]? = some (.loop (RL .busy none)) := (hB8.block L (by omega)).trans hl3
    have hD8 : W8.heap[W4.heap.size]? = some (.deferred (some [])) := (hB8.block _ (by omega)).trans hD3
    have c8 := hob8.cells.c1
    have f8 := hob8.free 0
    have hl8' := hob8.lt
    have Hob8 := Lib.hid hob8
    have Ho8 := Lib.hid ho8
    have Hl8 := Lib.hid hl8
    have HD8 := Lib.hid hD8
    have hs8 := hB8.size
    clear hr ho8 ha8 hob8 hl8 hD8 hl3 hD3 c0 f0
    gi_wp2
    have h9 : Only (· = w.heap.size) W8 (W8.setCell ⟨w.heap.size, 0, none⟩ (.slice (some ⟨g8, 0, none⟩) ((dirtyTo d i).length + 1) cap8)) := Only.setCell (A := (· = w.heap.size)) W8 (p := ⟨w.heap.size, 0, none⟩) rfl _
    have hob9 := Hob8.out.set 0 (.slice (some ⟨g8, 0, none⟩) ((dirtyTo d i).length + 1) cap8)
    have hl9 := (h9.block L (by omega) (by omega)).trans Hl8.out
    have hD9 := (h9.block W4.heap.size (by omega) (by omega)).trans HD8.out
    have hs9 := h9.size
    refine roundPost_normalR HRL.out hl9 ?_
    have h10 : Only (· = L) (W8.setCell ⟨w.heap.size, 0, none⟩ (.slice (some ⟨g8, 0, none⟩) ((dirtyTo d i).length + 1) cap8)) ((W8.setCell ⟨w.heap.size, 0, none⟩ (.slice (some ⟨g8, 0, none⟩) ((dirtyTo d i).length + 1) cap8)).putObj L (.loop (RL .ready none))) := Only.putObj (A := (· = L)) _ (b := L) rfl _
    have hl10 : ((W8.setCell ⟨w.heap.size, 0, none⟩ (.slice (some ⟨g8, 0, none⟩) ((dirtyTo d i).length + 1) cap8)).putObj L (.loop (RL .ready none))).heap[L]? = some (.loop (RL .ready none)) := World.putObj_heap_same (by omega)
    have hob10 := h10.blk hob9 (by omega)
    have ho10 := OwnI.only (OwnI.only Ho8.out h9 (fun k e => by omega)) h10 (fun k e => by omega)
    have hD10 := (h10.block W4.heap.size (by omega) (by omega)).trans hD9
    have hs10 := h10.size
    generalize (W8.setCell ⟨w.heap.size, 0, none⟩ (.slice (some ⟨g8, 0, none⟩) ((dirtyTo d i).length + 1) cap8)).putObj L (.loop (RL .ready none)) = W10 at *
    generalize W8.setCell ⟨w.heap.size, 0, none⟩ (.slice (some ⟨g8, 0, none⟩) ((dirtyTo d i).length + 1) cap8) = W9 at *
    have hchain : ∀ k, k < W3.heap.size → k ≠ L → k ≠ w.heap.size → k < W4.heap.size + 2 → W10.heap[k]? = W3.heap[k]? := fun k h1 h2 h3 h4 =>
      (h10.block k (by omega) h2).trans ((h9.block k (by omega) h3).trans (hB8.block k h4))
    refine ⟨rfl, ⟨?_, ?_, ?_, ?_, fun k hk hn => ?_⟩, ⟨_, hob10, by rw [dirtyTo, if_neg Hzn.out]; exact ho10⟩, hl10, hD10⟩
    · exact h10.os.trans (h9.os.trans (hB8.os.trans (hB3.out.os.trans Hj1.out.os)))
    · exact h10.tape.trans (h9.tape.trans (hB8.tape.trans (hB3.out.tape.trans Hj1.out.tape)))
    · exact h10.output.trans (h9.output.trans (hB8.output.trans (hB3.out.output.trans Hj1.out.output)))
    · have := Hj1.out.size; omega
    · have hk2 : k < W4.heap.size + 2 := by have := Hs5.out; omega
      by_cases hkL : k = L
      · subst hkL
        exact hl10.trans (Hj4.out.symm.trans (Hj1.out.block k hk hn))
      · exact (hchain k (by have := Hj1.out.size; omega) hkL hn hk2).trans ((hB3.out.block k (by have := Hj1.out.size; omega) hkL).trans (Hj1.out.block k hk hn))
  case hend =>
    rintro e W6 ⟨⟨v, rfl⟩, c, -, ⟨j1, ⟨v2, j2, j3⟩, j4, j5⟩⟩
    refine ⟨⟨v, rfl⟩, .ready, none, by simp, j4, ?_⟩
    have hs6 := j1.size
    have hlt : W4.heap.size + 1 < W6.heap.size := by omega
    have h7 : Only (· = W4.heap.size + 1) W6 (W6.putObj (W4.heap.size + 1) (.loop (RL .exhausted none))) := Only.putObj (A := (· = W4.heap.size + 1)) _ (b := W4.heap.size + 1) rfl _
    show Exit.inBlock 0 _ Exit.normal _ (W6.putObj (W4.heap.size + 1) (.loop (RL .exhausted none)))
    have hs7 : (W6.putObj (W4.heap.size + 1) (.loop (RL .exhausted none))).heap.size = W6.heap.size := World.putObj_size
    generalize W6.putObj (W4.heap.size + 1) (.loop (RL .exhausted none)) = W7 at *
    have hob7 := h7.blk j2 (by omega)
    have ho7 := OwnI.only j3 h7 (fun k e => by omega)
    have hD7 : W7.heap[W4.heap.size]? = some (.deferred (some [])) := (h7.block _ (by omega) (by omega)).trans j5
    have hB7 : Below w.heap.size w W7 := (hB4.trans (hB5.mono (by omega))).trans (((j1.below (B := w.heap.size) (by omega) (fun k e => by omega))).trans (h7.below (B := w.heap.size) (by omega) (fun k e => by omega)))
    have hB8 : Below w.heap.size w (W7.putObj W4.heap.size (.deferred none)) := hB7.trans ((Only.putObj (A := (· = W4.heap.size)) W7 (b := W4.heap.size) rfl (.deferred none)).below (B := w.heap.size) (by omega) (fun k e => by omega))
    have ho8 : OwnI (W4.heap.size + 2) (W7.putObj W4.heap.size (.deferred none)) v2 (dirtyTo d d.safe.length) := OwnI.only ho7 (Only.putObj (A := (· = W4.heap.size)) W7 (b := W4.heap.size) rfl (.deferred none)) (fun k e => by omega)
    have ho8' : OwnI w.heap.size (W7.putObj W4.heap.size (.deferred none)) v2 (dirtyTo d d.safe.length) := ⟨ho8.1, ho8.2.imp id fun ⟨g, cp, cur, e, hg, hh⟩ => ⟨g, cp, cur, e, by omega, hh⟩⟩
    have hr := HR.out _ v2 hB8 ho8'
    have HD7 := Lib.hid hD7
    have d0 := hob7.cells.c1
    have Hr := Lib.hid hr
    clear hs4 hk4 hB5 hlD hlL hs5 j1 j2 j3 j4 j5 h7 hob7 ho7 hD7 ho8 ho8' hB7 hB8 hs6 hs7 hlt hr hB05 hB4
    go_wp2_with fail
    refine ⟨by simp, .inl ⟨_, _, rfl, run_takeDeferred HD7.out, ?_⟩⟩
    exact ⟨_, results_tmp (t := 2) rfl _ _ _, fin Hr.out rfl⟩
end Go.Proofs.Ytfmpafheodpfoaa
