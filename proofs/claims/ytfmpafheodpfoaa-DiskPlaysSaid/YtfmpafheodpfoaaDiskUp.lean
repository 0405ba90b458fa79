/- disk.Up: the walk. (Printed by diskup.py.) -/
import Derived.Test.YtfmpafheodpfoaaDiskTo
namespace Go.Proofs.Ytfmpafheodpfoaa
open Go.RowKit Go.Shelf
set_option linter.unusedVariables false
set_option linter.unusedSimpArgs false
attribute [local go_sem] Oper.semAt_some

/-- How many sectors ahead of one have writes. -/
def cnt (d : Dk) : Nat → Nat
  | 0 => 0
  | i + 1 => cnt d i + if d.writes.getD i [] = [] then 0 else 1
def pickP (n : Nat) (keep : List UInt8) (c : Nat) : Nat := if c < keep.length then min (keep.getD c 0).toNat n else 0
/-- What comes of a sector. -/
def fate (d : Dk) (keep : List UInt8) (tn at' : Int) (i : Nat) : List UInt8 :=
  if d.writes.getD i [] = [] then d.safe.getD i []
  else if (cnt d i : Int) = tn ∧ 0 < pickP (d.writes.getD i []).length keep (cnt d i) then
    tornP ((d.safe.getD i [] :: d.writes.getD i []).getD (pickP (d.writes.getD i []).length keep (cnt d i)) []) ((d.safe.getD i [] :: d.writes.getD i []).getD (pickP (d.writes.getD i []).length keep (cnt d i) - 1) []) at'
  else (d.safe.getD i [] :: d.writes.getD i []).getD (pickP (d.writes.getD i []).length keep (cnt d i)) []
theorem cnt_le (d : Dk) : ∀ i, cnt d i ≤ i
  | 0 => Nat.le_refl _
  | i + 1 => by have := cnt_le d i; simp only [cnt]; split <;> omega
/-- An end that is the usual one. -/
def calm (Q : Exit → Act → World → Prop) : Exit → Act → World → Prop
  | .normal, a, w => Q .normal a w
  | _, _, _ => False
theorem wp_calm {P : Program} {c : Code} {Q : Exit → Act → World → Prop} {a : Act} {w : World} (h : c.wp P (calm Q) a w) : c.wp P Q a w :=
  wp_mono h (fun e a w h => by cases e <;> first | exact h | exact h.elim)
theorem calm_normal {Q : Exit → Act → World → Prop} {a : Act} {w : World} (h : Q .normal a w) : calm Q .normal a w := h
theorem rows_at {w : World} {b : Nat} {l : List (List UInt8)} (h : CellsAt w b 0 (l.flatMap secE)) (hl : ∀ s ∈ l, s.length = 128) (i : Nat) (hi : i < l.length) : CellsAt w b (i * 128) (secE (l.getD i [])) := by
  rw [show l.getD i [] = l[i] by simp [List.getD, List.getElem?_eq_getElem hi]]
  exact secs_at h hl i hi
theorem rows_len {l : List (List UInt8)} (hl : ∀ s ∈ l, s.length = 128) (i : Nat) (hi : i < l.length) : (l.getD i []).length = 128 := by
  rw [show l.getD i [] = l[i] by simp [List.getD, List.getElem?_eq_getElem hi]]
  exact hl _ (List.getElem_mem hi)
theorem appRow {w : World} {s : List UInt8} (hs : s.length = 128) {x : Value} {ys : List (List UInt8)} (hsrc : Src Try.prog 128 64 x ys.length (ys.flatMap secE) (w.alloc (.cells (secE s).toArray 73))) (hb : ys.length ≤ 1000000) :
    ∃ g cap w', (Builtin.append_ #[64, 64] 64 #[.slice (some ⟨w.heap.size, 0, none⟩) 1 1, x]).run Try.prog (w.alloc (.cells (secE s).toArray 73)) = .ok (.slice (some ⟨g, 0, none⟩) (ys.length + 1) cap) w' ∧
      Only (fun _ => False) w w' ∧ w.heap.size ≤ g ∧ g < w'.heap.size ∧ CellsAt w' g 0 ((s :: ys).flatMap secE) := by
  have h0 : Own secE 73 128 w.heap.size (w.alloc (.cells (secE s).toArray 73)) (.slice (some ⟨w.heap.size, 0, none⟩) 1 1) [s] := by
    have := World.ownsRow_lit (base := w.heap.size) (e := 73) (size := 128) w (secE s).toArray 1 (Nat.le_refl _) (by decide) (by rw [List.size_toArray, secE_length, hs])
    simpa [Own] using this
  obtain ⟨v', w', hr, ho, ha⟩ := appS (w := w.alloc (.cells (secE s).toArray 73)) (lo := w.heap.size) (v := .slice (some ⟨w.heap.size, 0, none⟩) 1 1) (x := x) (tx := 64) (ty := 64) (xs := [s]) (ys := ys) h0 hsrc (by rw [List.length_singleton]; omega) (by simp)
  obtain ⟨g, cap, rfl, h1, h2, -, -, h3, -⟩ := ho.form (by simp)
  rw [List.length_append, List.length_singleton, Nat.add_comm] at hr ha
  have hB : Below w.heap.size w (w.alloc (.cells (secE s).toArray 73)) := (Below.refl _ _).alloc (Nat.le_refl _) _
  have hB2 := hB.trans (ha.below (B := w.heap.size) hB.size (fun k e => by
    simp only [Value.ownBlock, Option.some.injEq] at e
    omega))
  exact ⟨g, cap, w', hr, Below.only hB2, h1, h2, h3⟩

set_option maxRecDepth 100000 in
set_option maxHeartbeats 16000000 in
theorem Up_any (S : Nat → Prop) (lo hi db : Nat) (d : Dk) (kv : Value) (keep : List UInt8) (tn at' : Int) (w : World) (h : DkAt w S db d) (hS : ∀ k, S k → k < w.heap.size) (hkp : Bytes lo hi w kv keep) (hhi : hi ≤ w.heap.size) (hap : ∀ k, S k → k < lo ∨ hi ≤ k)
    (hcnt : ∀ l ∈ d.writes, l.length ≤ 1000000) (R : Ending → World → Prop)
    (hR0 : d.down = false → ∀ w', Only S w w' → DkAt w' S db d → R (.returned (.int .i64 2)) w')
    (hR4 : d.down = true → ∀ w', Only S w w' → DkAt w' S db ⟨(d.upTo (fate d keep tn at') d.safe.length).safe, (d.upTo (fate d keep tn at') d.safe.length).writes, -1, false, d.ops⟩ → R (.returned (.int .i64 0)) w') :
    Calls Try.prog 16 #[.pointer (some ⟨db, 0, none⟩), .agg #[kv, .int .i64 tn, .int .i64 at']] w R := by
  obtain ⟨sb, wb, kS, kW, ws, h⟩ := h
  have HR0 := Lib.hid hR0
  have HR4 := Lib.hid hR4
  have HS := Lib.hid hS
  have Hap := Lib.hid hap
  have Hcnt := Lib.hid hcnt
  have hpos := h.pos
  obtain ⟨ao, kcap, rfl, kq1, kq2, -, hkc⟩ := hkp.form
  have Hkc := Lib.hid hkc
  have hB1 : Below w.heap.size w ((w.alloc (.cells #[.pointer (some ⟨db, 0, none⟩)] 25)).alloc (.cells #[.slice ao keep.length kcap, .int .i64 tn, .int .i64 at'] 34)) := ((Below.refl _ _).alloc (Nat.le_refl _) _).alloc (by simp) _
  have hk1 : Blk ((w.alloc (.cells #[.pointer (some ⟨db, 0, none⟩)] 25)).alloc (.cells #[.slice ao keep.length kcap, .int .i64 tn, .int .i64 at'] 34)) w.heap.size [.pointer (some ⟨db, 0, none⟩)] 25 := (Blk.new w [.pointer (some ⟨db, 0, none⟩)] 25 rfl).alloc _
  have hf1 : Blk ((w.alloc (.cells #[.pointer (some ⟨db, 0, none⟩)] 25)).alloc (.cells #[.slice ao keep.length kcap, .int .i64 tn, .int .i64 at'] 34)) (w.heap.size + 1) [.slice ao keep.length kcap, .int .i64 tn, .int .i64 at'] 34 := Blk.new _ [.slice ao keep.length kcap, .int .i64 tn, .int .i64 at'] 34 (by simp)
  have hs1 : ((w.alloc (.cells #[.pointer (some ⟨db, 0, none⟩)] 25)).alloc (.cells #[.slice ao keep.length kcap, .int .i64 tn, .int .i64 at'] 34)).heap.size = w.heap.size + 2 := by simp
  have H := Lib.hid (h.keep (S' := S) (fun k hk _ => hB1.block k (hS k hk)) (fun _ h => h))
  have HO1 := Lib.hid (show Only S w ((w.alloc (.cells #[.pointer (some ⟨db, 0, none⟩)] 25)).alloc (.cells #[.slice ao keep.length kcap, .int .i64 tn, .int .i64 at'] 34)) from Below.only hB1)
  clear hR0 hR4 h hS hkp hap hcnt hkc
  refine (callsIn_wide (n := 3)).1 (callsIn_of_wp_marks Try.func16 rfl trivial ?_ rfl)
  refine wpIn_wide.2 ?_
  simp only [Try.ntmps16, List.size_toArray, List.length_cons, Nat.reduceAdd, Nat.reduceSub, Array.replicate_succ, Array.replicate_zero, List.push_toArray, List.append_toArray, List.nil_append, List.cons_append, List.length_nil]
  have c0 := hk1.cells.c1
  have Hk1 := Lib.hid hk1
  have Hf1 := Lib.hid hf1
  clear hk1 hf1
  generalize hW1 : (w.alloc (.cells #[.pointer (some ⟨db, 0, none⟩)] 25)).alloc (.cells #[.slice ao keep.length kcap, .int .i64 tn, .int .i64 at'] 34) = W1 at *
  go_wp2_with fail
  clear hW1
  refine none_any db _ _ _ _ _ _ _ W1 H.out.hd hpos _ ?_
  have cdn : W1.cell? ⟨db, 3, none⟩ = some (.bool d.down) := by
    have := H.out.hd.cells.c5.2.2.2.1
    rwa [Nat.zero_add] at this
  by_cases hd : d.down = true
  · have hr4 := HR4.out hd
    have HR := Lib.hid hr4
    rw [hd] at cdn
    clear hr4 HR0 HR4
    go_wp2_with fail
    refine dirty_any db W1 _ ?_
    go_wp2_with fail
    have hB3 : Below W1.heap.size W1 (W1.alloc (.cells #[.pointer (some ⟨db, 0, none⟩)] 25)) := (Below.refl _ _).alloc (Nat.le_refl _) _
    have hk3 : Blk (W1.alloc (.cells #[.pointer (some ⟨db, 0, none⟩)] 25)) W1.heap.size [.pointer (some ⟨db, 0, none⟩)] 25 := Blk.new _ _ _ rfl
    have hs3 : (W1.alloc (.cells #[.pointer (some ⟨db, 0, none⟩)] 25)).heap.size = w.heap.size + 3 := by simp; omega
    rw [hs1] at hk3
    try simp only [hs1]
    have hkb3 := Hk1.out.below hB3 (by omega)
    have hfb3 := Hf1.out.below hB3 (by omega)
    have H3 := Lib.hid (H.out.keep (S' := S) (fun k hk _ => hB3.block k (by have := HS.out k hk; omega)) (fun _ h => h))
    have HO3 := Lib.hid (HO1.out.trans (Below.only hB3))
    clear hB3 Hk1 Hf1 HO1 H c0 hB1
    generalize W1.alloc (.cells #[.pointer (some ⟨db, 0, none⟩)] 25) = W4 at *
    refine wp_rangeFuncR 2 (gf := 45) rfl (enters_of Try.func45 (by kernel_rfl) rfl) (fun fn RL hRL => ?_)
    have HRL := Lib.hid hRL
    clear hRL
    have hB5 : Below W4.heap.size W4 ((W4.alloc (.deferred (some []))).alloc (.loop (RL .ready none))) := ((Below.refl _ _).alloc (Nat.le_refl _) _).alloc (by simp) _
    have hlD : ((W4.alloc (.deferred (some []))).alloc (.loop (RL .ready none))).heap[W4.heap.size]? = some (.deferred (some [])) := (Below.heap_alloc _ _ _ (by simp)).trans (World.alloc_heap_new W4 _)
    have hlL : ((W4.alloc (.deferred (some []))).alloc (.loop (RL .ready none))).heap[W4.heap.size + 1]? = some (.loop (RL .ready none)) := by
      have := World.alloc_heap_new (W4.alloc (.deferred (some []))) (.loop (RL .ready none))
      rwa [World.size_alloc] at this
    have hs5 : ((W4.alloc (.deferred (some []))).alloc (.loop (RL .ready none))).heap.size = W4.heap.size + 2 := by simp
    generalize (W4.alloc (.deferred (some []))).alloc (.loop (RL .ready none)) = W5 at *
    have hK5 := hk3.below hB5 (by omega)
    have hkb5 := hkb3.below hB5 (by omega)
    have hfb5 := hfb3.below hB5 (by omega)
    have H5 := Lib.hid (H3.out.keep (S' := S) (fun k hk _ => hB5.block k (by have := HS.out k hk; omega)) (fun _ h => h))
    have hnn : d.safe.length ≤ 65536 := H5.out.cap
    have hlr : d.writes.length = d.safe.length := H5.out.lr
    have cdb : W5.cell? ⟨db, 1, none⟩ = some (.slice (some ⟨wb, 0, none⟩) d.safe.length kW) := by
      have := H5.out.hd.cells.c5.2.1
      rwa [Nat.zero_add] at this
    refine (dirty1_any (w.heap.size + 2) db wb d.safe.length 1 (W4.heap.size + 1) (fun i => (d.writes.getD i []).length)
      (fun i c W => Only S W5 W ∧ (∃ ws, DkIn W S db sb wb kS kW ws (d.upTo (fate d keep tn at') i)) ∧ c = cnt d i ∧ W.heap[W4.heap.size + 1]? = some (.loop (RL .ready none)) ∧ W.heap[W4.heap.size]? = some (.deferred (some [])))
      ?hcell ?hskip ?hY W5 ?hJ0 hK5.cells.c1 cdb hnn).mono ?hend
    case hJ0 => exact ⟨Only.refl _ _, ⟨ws, by rw [d.upTo_zero _ hlr]; exact H5.out⟩, rfl, hlL, hlD⟩
    case hcell =>
      rintro i c W ⟨j1, ⟨ws', j2⟩, -, j3, j4⟩ hi
      obtain ⟨ao, cap, hc⟩ := j2.headW i (by rw [d.upTo_len]; exact hi)
      refine ⟨ao, cap, ?_⟩
      rcases d.upTo_w (fate d keep tn at') i with e | e
      · rwa [e] at hc
      · omega
    case hskip =>
      rintro i c W ⟨j1, j2, jc, j3, j4⟩ hi hz
      have hz' : d.writes.getD i [] = [] := List.eq_nil_of_length_eq_zero hz
      rw [d.upTo_skip _ i hz' (by rw [fate, if_pos hz'])]
      exact ⟨j1, j2, by rw [cnt, if_pos hz', jc]; rfl, j3, j4⟩
    case hY =>
      rintro i c W ⟨j1, ⟨ws', j2⟩, jc, j4, j5⟩ hi hci hz
      have hsW := j1.size
      have hsS : ∀ k, S k → k < w.heap.size := fun k hk => HS.out k hk
      have hlen1 : (d.upTo (fate d keep tn at') i).safe.length = d.safe.length := d.upTo_len _ _
      have HS3 := Lib.hid hsS
      have hLW : W4.heap.size + 1 < W.heap.size := by omega
      have hkL : w.heap.size + 3 ≤ W4.heap.size := by omega
      have hzn : ¬ d.writes.getD i [] = [] := fun e => hz (by rw [e]; rfl)
      have Jc := Lib.hid jc
      clear jc
      refine yieldAt_recR HRL.out j4 rfl ?_
      have Hj1 := Lib.hid j1
      have Hj2 := Lib.hid j2
      have Hj4 := Lib.hid j4
      have Hj5 := Lib.hid j5
      have HboxW := Lib.hid (j1.blk hkb5 (fun e => by have := hsS _ e; omega))
      have HfbW := Lib.hid (j1.blk hfb5 (fun e => by have := hsS _ e; omega))
      have HO5 := Lib.hid (HO3.out.trans (Below.only hB5))
      clear j1 j2 j4 j5 hlD hlL hB5 hs5 hK5 hkb5 hfb5 cdb hk3 hkb3 hfb3 hs3 hsS cdn
      gi_wp2
      generalize hL : W4.heap.size + 1 = L at *
      refine ⟨Hj4.out, ?_⟩
      have ho3 : Only (· = L) W (W.putObj L (.loop (RL .busy none))) := Only.putObj (A := (· = L)) W (b := L) rfl _
      have hl3 : (W.putObj L (.loop (RL .busy none))).heap[L]? = some (.loop (RL .busy none)) := World.putObj_heap_same (by omega)
      have hs3 : (W.putObj L (.loop (RL .busy none))).heap.size = W.heap.size := World.putObj_size
      generalize W.putObj L (.loop (RL .busy none)) = W3 at *
      have hD3 : W3.heap[W4.heap.size]? = some (.deferred (some [])) := (ho3.block _ (by omega) (by omega)).trans Hj5.out
      have H3' := Hj2.out.keep (S' := S) (fun k hk _ => ho3.block k (by have := HS3.out k hk; omega) (by have := HS3.out k hk; omega)) (fun _ h => h)
      have hbox3 := ho3.blk HboxW.out (by omega)
      have hfb3 := ho3.blk HfbW.out (by omega)
      have hsbk : w.heap.size ≠ sb := fun e => by have := HS3.out sb H3'.ss; omega
      have hsbk1 : w.heap.size + 1 ≠ sb := fun e => by have := HS3.out sb H3'.ss; omega
      have HSsb := Lib.hid H3'.ss
      have hsbl := HS3.out sb H3'.ss
      have i0 : (0 : Int) ≤ (i : Int) := by omega
      have i1 : (i : Int) < (d.safe.length : Int) := by omega
      have HI := Lib.hid (show i < (d.upTo (fate d keep tn at') i).safe.length by rw [hlen1]; exact hi)
      have hlw : i < ws'.length := by have := H3'.lw; omega
      have hlw2 : i < (d.upTo (fate d keep tn at') i).writes.length := by rw [d.upTo_lenW]; exact hi
      have ey : (d.upTo (fate d keep tn at') i).writes[i] = d.writes.getD i [] := by simp [Dk.upTo]
      have es : (d.upTo (fate d keep tn at') i).safe[i]'HI.out = d.safe.getD i [] := by simp [Dk.upTo]
      have ho := (H3'.row i hlw hlw2).2
      have hys := H3'.lwr _ (List.getElem_mem hlw2)
      have hs0 := H3'.ls _ (List.getElem_mem HI.out)
      have hsec3 := sec_at' H3'.hs H3'.ls i HI.out
      rw [ey] at ho hys
      rw [es] at hs0 hsec3
      have hyl : (d.writes.getD i []).length ≤ 1000000 := by
        have h2 : i < d.writes.length := by omega
        have e : d.writes.getD i [] = d.writes[i] := by simp [List.getD, List.getElem?_eq_getElem h2]
        rw [e]
        exact Hcnt.out _ (List.getElem_mem h2)
      have hcell3 : W3.cell? ⟨wb, i, none⟩ = some ws'[i] := by have := H3'.hw.cells i ws'[i] (List.getElem?_eq_getElem hlw); rwa [Nat.zero_add] at this
      obtain ⟨gw, capw, ew, -, hgw, -, -, hcy, -⟩ := ho.form hzn
      rw [ew] at hcell3
      have Hzn := Lib.hid hzn
      clear hzn
      generalize hs0e : d.safe.getD i [] = s0 at *
      generalize hyse : d.writes.getD i [] = ys at *
      have hbox8 : ∀ w', Only (fun _ => False) W3 w' → w'.cell? ⟨w.heap.size, 0, none⟩ = some (.pointer (some ⟨db, 0, none⟩)) := fun w' hO => (hO.blk hbox3 id).cells.c1
      have hsafe8 : ∀ w', Only (fun _ => False) W3 w' → w'.cell? ⟨db, 0, none⟩ = some (.slice (some ⟨sb, 0, none⟩) d.safe.length kS) := fun w' hO => by
        have := (hO.blk H3'.hd id).cells.c5.1
        rwa [hlen1] at this
      have hwr8 : ∀ w', Only (fun _ => False) W3 w' → w'.cell? ⟨db, 1, none⟩ = some (.slice (some ⟨wb, 0, none⟩) d.safe.length kW) := fun w' hO => by
        have := (hO.blk H3'.hd id).cells.c5.2.1
        rwa [Nat.zero_add, hlen1] at this
      have hwi8 : ∀ w', Only (fun _ => False) W3 w' → w'.cell? ⟨wb, i, none⟩ = some (.slice (some ⟨gw, 0, none⟩) ys.length capw) := fun w' hO => (World.cell?_of_block (hO.block wb H3'.hw.lt id)).trans hcell3
      have hsec8 : ∀ w', Only (fun _ => False) W3 w' → CellsAt w' sb (i * 128) (secE s0) := fun w' hO j u hu => (World.cell?_of_block (hO.block sb H3'.hs.lt id)).trans (hsec3 j u hu)
      have hbr := run_bsS s0 hs0 W3.drew
      have hS8b : Only (fun _ => False) W3 (W3.drew.alloc (.cells (secE s0).toArray 73)) := (Only.drew W3).trans (Only.alloc _ _)
      have hsrc : Src Try.prog 128 64 (.slice (some ⟨gw, 0, none⟩) ys.length capw) ys.length (ys.flatMap secE) (W3.drew.alloc (.cells (secE s0).toArray 73)) :=
        srcS (fun j u hu => (World.cell?_of_block (hS8b.block gw hgw id)).trans (hcy j u hu)) hys rfl
      have ha0 := appRow (w := W3.drew) hs0 hsrc hyl
      refine Exists.elim ha0 fun g8 ha1 => Exists.elim ha1 fun cap8 ha2 => Exists.elim ha2 fun Wc ha3 => ?_
      have hrun := ha3.1
      have hOc : Only (fun _ => False) W3 Wc := (Only.drew W3).trans ha3.2.1
      have hg1 : W3.heap.size ≤ g8 := ha3.2.2.1
      have hg2 : g8 < Wc.heap.size := ha3.2.2.2.1
      have hcR := ha3.2.2.2.2
      clear ha3 ha2 ha1 ha0
      have H8 := Lib.hid (H3'.keep (S' := S) (fun k _ hlt => hOc.block k hlt id) (fun _ h => h))
      have hboxC := hOc.blk hbox3 id
      have hfbC := hOc.blk hfb3 id
      obtain ⟨cf0, cf1, cf2⟩ := hfbC.cells.c3
      simp only [Nat.zero_add] at cf1 cf2
      have hbox12 : ∀ w', Only (· = sb) Wc w' → w'.cell? ⟨w.heap.size, 0, none⟩ = some (.pointer (some ⟨db, 0, none⟩)) := fun w' hO => (hO.blk hboxC hsbk).cells.c1
      have hsafe12 : ∀ w', Only (· = sb) Wc w' → w'.cell? ⟨db, 0, none⟩ = some (.slice (some ⟨sb, 0, none⟩) d.safe.length kS) := fun w' hO => by
        have := (hO.blk H8.out.hd H8.out.ds).cells.c5.1
        rwa [hlen1] at this
      have hrow12 : ∀ w', Only (· = sb) Wc w' → CellsAt w' g8 0 ((s0 :: ys).flatMap secE) := fun w' hO j u hu => (World.cell?_of_block (hO.block g8 hg2 (by omega))).trans (hcR j u hu)
      have hfate1 : ∀ w', Only (· = sb) Wc w' → w'.cell? ⟨w.heap.size + 1, 1, none⟩ = some (.int .i64 tn) := fun w' hO => by have := (hO.blk hfbC hsbk1).cells.c3.2.1; rwa [Nat.zero_add] at this
      have hfate2 : ∀ w', Only (· = sb) Wc w' → w'.cell? ⟨w.heap.size + 1, 2, none⟩ = some (.int .i64 at') := fun w' hO => by have := (hO.blk hfbC hsbk1).cells.c3.2.2; rwa [Nat.zero_add] at this
      have Hrl := Lib.hid (show ∀ s ∈ (s0 :: ys), s.length = 128 from fun s hs => by rcases List.mem_cons.1 hs with rfl | hs; exact hs0; exact hys s hs)
      have hsC := hOc.size
      have hchain : ∀ k, k < w.heap.size → ¬ S k → Wc.heap[k]? = w.heap[k]? := fun k h1 h2 =>
        (hOc.block k (by omega) id).trans ((ho3.block k (by omega) (by omega)).trans ((Hj1.out.block k (by have := HO5.out.size; omega) h2).trans (HO5.out.block k h1 h2)))
      have HlC := Lib.hid ((hOc.block L (by omega) id).trans hl3)
      have HDC := Lib.hid ((hOc.block W4.heap.size (by omega) id).trans hD3)
      have Ho3 := Lib.hid ho3
      clear H3' hbox3 hfb3 hD3 hl3 ho3 hfbC hboxC hcR hsrc hcy ho hys hsec3 hcell3 ew
      gi_wp2_with fail
      refine wpIn_region_held (S := fun w' => Only (fun _ => False) W3 w') (by kernel_rfl) (by rintro ⟨a, w, h⟩; exact h) (by kernel_rfl) (Only.drew W3) (fun hHeld => ?_)
      refine wpAnyH_take (i := 0) (v := .pointer (some ⟨db, 0, none⟩)) rfl (by kernel_rfl) (by kernel_rfl) (by kernel_rfl) (fun _ _ _ h => h) (Or.inl ⟨by rfl, ?_⟩) hHeld ?_
      · intro w' hSw; have hcc := hbox8 w' hSw; go_simp
      try simp only [Act.put, List.getElem_toArray, List.getElem_cons_succ, List.getElem_cons_zero, List.setIfInBounds_toArray, List.set_cons_zero, List.set_cons_succ]
      refine wpAnyH_take (i := 1) (v := .pointer (some ⟨db, 0, none⟩)) rfl (by kernel_rfl) (by kernel_rfl) (by kernel_rfl) (fun _ _ _ h => h) (Or.inl ⟨by rfl, ?_⟩) hHeld ?_
      · intro w' hSw; go_simp
      try simp only [Act.put, List.getElem_toArray, List.getElem_cons_succ, List.getElem_cons_zero, List.setIfInBounds_toArray, List.set_cons_zero, List.set_cons_succ]
      refine wpAnyH_take (i := 2) (v := .pointer (some ⟨db, 0, none⟩)) rfl (by kernel_rfl) (by kernel_rfl) (by kernel_rfl) (fun _ _ _ h => h) (Or.inl ⟨by rfl, ?_⟩) hHeld ?_
      · intro w' hSw; go_simp
      try simp only [Act.put, List.getElem_toArray, List.getElem_cons_succ, List.getElem_cons_zero, List.setIfInBounds_toArray, List.set_cons_zero, List.set_cons_succ]
      refine wpAnyH_take (i := 3) (v := .slice (some ⟨sb, 0, none⟩) d.safe.length kS) rfl (by kernel_rfl) (by kernel_rfl) (by kernel_rfl) (fun _ _ _ h => h) (Or.inl ⟨by rfl, ?_⟩) hHeld ?_
      · intro w' hSw; have hcc := hsafe8 w' hSw; go_simp
      try simp only [Act.put, List.getElem_toArray, List.getElem_cons_succ, List.getElem_cons_zero, List.setIfInBounds_toArray, List.set_cons_zero, List.set_cons_succ]
      refine wpAnyH_take (i := 4) (v := .int .i64 i) rfl (by kernel_rfl) (by kernel_rfl) (by kernel_rfl) (fun _ _ _ h => h) (Or.inl ⟨by rfl, ?_⟩) hHeld ?_
      · intro w' hSw; go_simp
      try simp only [Act.put, List.getElem_toArray, List.getElem_cons_succ, List.getElem_cons_zero, List.setIfInBounds_toArray, List.set_cons_zero, List.set_cons_succ]
      refine wpAnyH_take (i := 5) (v := .pointer (some ⟨sb, i * 128, none⟩)) rfl (by kernel_rfl) (by kernel_rfl) (by kernel_rfl) (fun _ _ _ h => h) (Or.inl ⟨by rfl, ?_⟩) hHeld ?_
      · intro w' hSw; go_simp
      try simp only [Act.put, List.getElem_toArray, List.getElem_cons_succ, List.getElem_cons_zero, List.setIfInBounds_toArray, List.set_cons_zero, List.set_cons_succ]
      refine wpAnyH_take (i := 6) (v := .agg (secE s0).toArray) rfl (by kernel_rfl) (by kernel_rfl) (by kernel_rfl) (fun _ _ _ h => h) ?_ hHeld ?_
      · refine yieldsIf_load_mid ?_ 73 (.tmp 27) ?_ sb (i * 128) ?_ (secE s0) (.array 128 5) (hsec8) Try.underlying73 ?_ ?_
        · rfl
        · rfl
        · kernel_rfl
        · rfl
        · exact sizeS.trans (congrArg some (by rw [secE_length, hs0]))
      try simp only [Act.put, List.getElem_toArray, List.getElem_cons_succ, List.getElem_cons_zero, List.setIfInBounds_toArray, List.set_cons_zero, List.set_cons_succ]
      refine wpAnyH_take (i := 8) (v := .pointer (some ⟨db, 0, none⟩)) rfl (by kernel_rfl) (by kernel_rfl) (by kernel_rfl) (fun _ _ _ h => h) (Or.inl ⟨by rfl, ?_⟩) hHeld ?_
      · intro w' hSw; have hcc := hbox8 w' hSw; go_simp
      try simp only [Act.put, List.getElem_toArray, List.getElem_cons_succ, List.getElem_cons_zero, List.setIfInBounds_toArray, List.set_cons_zero, List.set_cons_succ]
      refine wpAnyH_take (i := 9) (v := .pointer (some ⟨db, 0, none⟩)) rfl (by kernel_rfl) (by kernel_rfl) (by kernel_rfl) (fun _ _ _ h => h) (Or.inl ⟨by rfl, ?_⟩) hHeld ?_
      · intro w' hSw; go_simp
      try simp only [Act.put, List.getElem_toArray, List.getElem_cons_succ, List.getElem_cons_zero, List.setIfInBounds_toArray, List.set_cons_zero, List.set_cons_succ]
      refine wpAnyH_take (i := 10) (v := .pointer (some ⟨db, 1, none⟩)) rfl (by kernel_rfl) (by kernel_rfl) (by kernel_rfl) (fun _ _ _ h => h) (Or.inl ⟨by rfl, ?_⟩) hHeld ?_
      · intro w' hSw; go_simp
      try simp only [Act.put, List.getElem_toArray, List.getElem_cons_succ, List.getElem_cons_zero, List.setIfInBounds_toArray, List.set_cons_zero, List.set_cons_succ]
      refine wpAnyH_take (i := 11) (v := .slice (some ⟨wb, 0, none⟩) d.safe.length kW) rfl (by kernel_rfl) (by kernel_rfl) (by kernel_rfl) (fun _ _ _ h => h) (Or.inl ⟨by rfl, ?_⟩) hHeld ?_
      · intro w' hSw; have hcc := hwr8 w' hSw; go_simp
      try simp only [Act.put, List.getElem_toArray, List.getElem_cons_succ, List.getElem_cons_zero, List.setIfInBounds_toArray, List.set_cons_zero, List.set_cons_succ]
      refine wpAnyH_take (i := 12) (v := .int .i64 i) rfl (by kernel_rfl) (by kernel_rfl) (by kernel_rfl) (fun _ _ _ h => h) (Or.inl ⟨by rfl, ?_⟩) hHeld ?_
      · intro w' hSw; go_simp
      try simp only [Act.put, List.getElem_toArray, List.getElem_cons_succ, List.getElem_cons_zero, List.setIfInBounds_toArray, List.set_cons_zero, List.set_cons_succ]
      refine wpAnyH_take (i := 13) (v := .pointer (some ⟨wb, i, none⟩)) rfl (by kernel_rfl) (by kernel_rfl) (by kernel_rfl) (fun _ _ _ h => h) (Or.inl ⟨by rfl, ?_⟩) hHeld ?_
      · intro w' hSw; go_simp
      try simp only [Act.put, List.getElem_toArray, List.getElem_cons_succ, List.getElem_cons_zero, List.setIfInBounds_toArray, List.set_cons_zero, List.set_cons_succ]
      refine wpAnyH_take (i := 14) (v := .slice (some ⟨gw, 0, none⟩) ys.length capw) rfl (by kernel_rfl) (by kernel_rfl) (by kernel_rfl) (fun _ _ _ h => h) (Or.inl ⟨by rfl, ?_⟩) hHeld ?_
      · intro w' hSw; have hcc := hwi8 w' hSw; go_simp
      try simp only [Act.put, List.getElem_toArray, List.getElem_cons_succ, List.getElem_cons_zero, List.setIfInBounds_toArray, List.set_cons_zero, List.set_cons_succ]
      refine wpAnyH_ready (rs := [7]) (by kernel_rfl) (by simp) ?_
      refine allVal rfl (by kernel_rfl) (execBuild hbr rfl (by kernel_rfl)) hS8b ?_ AllReadyH.nil
      try simp only [Act.put, List.getElem_toArray, List.getElem_cons_succ, List.getElem_cons_zero, List.setIfInBounds_toArray, List.set_cons_zero, List.set_cons_succ]
      refine wpAnyH_ready (rs := [15]) (by kernel_rfl) (by simp) ?_
      refine allVal rfl (by kernel_rfl) (execApp hrun rfl (by kernel_rfl) (by kernel_rfl)) hOc ?_ AllReadyH.nil
      try simp only [Act.put, List.getElem_toArray, List.getElem_cons_succ, List.getElem_cons_zero, List.setIfInBounds_toArray, List.set_cons_zero, List.set_cons_succ]
      refine wpAnyH_ready (rs := [16]) (by kernel_rfl) (by simp) ?_
      refine allVal (v := .slice (some ⟨g8, 0, none⟩) (ys.length + 1) cap8) (w' := Wc) rfl (by kernel_rfl) ?_ hOc ?_ AllReadyH.nil
      · go_simp
      try simp only [Act.put, List.getElem_toArray, List.getElem_cons_succ, List.getElem_cons_zero, List.setIfInBounds_toArray, List.set_cons_zero, List.set_cons_succ]
      refine wpAnyH_done (by kernel_rfl) ?_ _
      clear hbox8 hsafe8 hwr8 hwi8 hsec8 hbr hS8b hrun hHeld
      have cbx := hbox12 Wc (Only.refl _ _)
      by_cases hck : c < keep.length
      · have hkeep : keep.getD c 0 = keep[c] := by simp [List.getD, List.getElem?_eq_getElem hck]
        obtain ⟨b0, off0, hao, p1, p2, q⟩ := Hkc.out c hck
        obtain ⟨cs0, -, hcs0, e0⟩ := q c hck
        have e0' : cs0 = bE keep[c] := e0
        subst e0'
        have ck := hcs0.c1
        rw [Nat.mul_one, ← hkeep] at ck
        have hb0S : ¬ S b0 := fun hs => by have := Hap.out b0 hs; omega
        have ckc : Wc.cell? ⟨b0, off0 + c, none⟩ = some (.int .u8 ((keep.getD c 0).toNat : Nat)) := (World.cell?_of_block (hchain b0 (by omega) hb0S)).trans ck
        have hk255 : (keep.getD c 0).toNat ≤ 255 := by have := (keep.getD c 0).toNat_lt; omega
        have hck' : (c : Int) < (keep.length : Int) := by omega
        have hw1 : IntKind.i64.wrap (((ys.length + 1 : Nat) : Int) - 1) = (ys.length : Int) := by rw [IntKind.wrap_i64]; omega
        have hw2 : IntKind.i64.wrap ((ys.length : Int) + 1 - 1) = (ys.length : Int) := by rw [IntKind.wrap_i64]; omega
        have hw3 : IntKind.i64.wrap (ys.length : Int) = (ys.length : Int) := by rw [IntKind.wrap_i64]; omega
        have hpk0 : pickP ys.length keep c = min (keep.getD c 0).toNat ys.length := by rw [pickP, if_pos hck]
        clear hcs0 e0 q ck
        generalize (keep.getD c 0).toNat = kc at *
        have hw4 : IntKind.i64.wrap (kc : Int) = (kc : Int) := by rw [IntKind.wrap_i64]; omega
        by_cases hmn : ys.length < kc
        · have hmn' : (ys.length : Int) < (kc : Int) := by omega
          have hpk : pickP ys.length keep c = ys.length := by rw [hpk0]; omega
          gi_wp2_with fail
          have HkL := Lib.hid (show ys.length < (s0 :: ys).length by rw [List.length_cons]; omega)
          have hrk : ∀ w', Only (· = sb) Wc w' → CellsAt w' g8 (ys.length * 128) (secE ((s0 :: ys).getD ys.length [])) := fun w' hO => rows_at (hrow12 w' hO) Hrl.out ys.length HkL.out
          have hsk := rows_len Hrl.out ys.length HkL.out
          have j0 : (0 : Int) ≤ ((ys.length : Nat) : Int) := by omega
          have j1 : ((ys.length : Nat) : Int) < (ys.length : Int) + 1 := by omega
          refine wpIn_region_held (S := fun w' => Only (· = sb) Wc w') (by kernel_rfl) (by rintro ⟨a, w, h⟩; exact h) (by kernel_rfl) (Only.drew Wc) (fun hHeld => ?_)
          generalize hSK : (s0 :: ys).getD ys.length [] = sk at *
          refine wpAnyH_take (i := 0) (v := .pointer (some ⟨db, 0, none⟩)) rfl (by kernel_rfl) (by kernel_rfl) (by kernel_rfl) (fun _ _ _ h => h) (Or.inl ⟨by rfl, ?_⟩) hHeld ?_
          · intro w' hSw; have hcc := hbox12 w' hSw; go_simp
          try simp only [Act.put, List.getElem_toArray, List.getElem_cons_succ, List.getElem_cons_zero, List.setIfInBounds_toArray, List.set_cons_zero, List.set_cons_succ]
          refine wpAnyH_take (i := 1) (v := .pointer (some ⟨db, 0, none⟩)) rfl (by kernel_rfl) (by kernel_rfl) (by kernel_rfl) (fun _ _ _ h => h) (Or.inl ⟨by rfl, ?_⟩) hHeld ?_
          · intro w' hSw; go_simp
          try simp only [Act.put, List.getElem_toArray, List.getElem_cons_succ, List.getElem_cons_zero, List.setIfInBounds_toArray, List.set_cons_zero, List.set_cons_succ]
          refine wpAnyH_take (i := 2) (v := .pointer (some ⟨db, 0, none⟩)) rfl (by kernel_rfl) (by kernel_rfl) (by kernel_rfl) (fun _ _ _ h => h) (Or.inl ⟨by rfl, ?_⟩) hHeld ?_
          · intro w' hSw; go_simp
          try simp only [Act.put, List.getElem_toArray, List.getElem_cons_succ, List.getElem_cons_zero, List.setIfInBounds_toArray, List.set_cons_zero, List.set_cons_succ]
          refine wpAnyH_take (i := 3) (v := .slice (some ⟨sb, 0, none⟩) d.safe.length kS) rfl (by kernel_rfl) (by kernel_rfl) (by kernel_rfl) (fun _ _ _ h => h) (Or.inl ⟨by rfl, ?_⟩) hHeld ?_
          · intro w' hSw; have hcc := hsafe12 w' hSw; go_simp
          try simp only [Act.put, List.getElem_toArray, List.getElem_cons_succ, List.getElem_cons_zero, List.setIfInBounds_toArray, List.set_cons_zero, List.set_cons_succ]
          refine wpAnyH_take (i := 4) (v := .int .i64 i) rfl (by kernel_rfl) (by kernel_rfl) (by kernel_rfl) (fun _ _ _ h => h) (Or.inl ⟨by rfl, ?_⟩) hHeld ?_
          · intro w' hSw; go_simp
          try simp only [Act.put, List.getElem_toArray, List.getElem_cons_succ, List.getElem_cons_zero, List.setIfInBounds_toArray, List.set_cons_zero, List.set_cons_succ]
          refine wpAnyH_take (i := 5) (v := .slice (some ⟨g8, 0, none⟩) (ys.length + 1) cap8) rfl (by kernel_rfl) (by kernel_rfl) (by kernel_rfl) (fun _ _ _ h => h) (Or.inl ⟨by rfl, ?_⟩) hHeld ?_
          · intro w' hSw; go_simp
          try simp only [Act.put, List.getElem_toArray, List.getElem_cons_succ, List.getElem_cons_zero, List.setIfInBounds_toArray, List.set_cons_zero, List.set_cons_succ]
          refine wpAnyH_take (i := 6) (v := .int .i64 (ys.length : Nat)) rfl (by kernel_rfl) (by kernel_rfl) (by kernel_rfl) (fun _ _ _ h => h) (Or.inl ⟨by rfl, ?_⟩) hHeld ?_
          · intro w' hSw; go_simp
          try simp only [Act.put, List.getElem_toArray, List.getElem_cons_succ, List.getElem_cons_zero, List.setIfInBounds_toArray, List.set_cons_zero, List.set_cons_succ]
          refine wpAnyH_take (i := 7) (v := .pointer (some ⟨g8, ys.length * 128, none⟩)) rfl (by kernel_rfl) (by kernel_rfl) (by kernel_rfl) (fun _ _ _ h => h) (Or.inl ⟨by rfl, ?_⟩) hHeld ?_
          · intro w' hSw; go_simp
          try simp only [Act.put, List.getElem_toArray, List.getElem_cons_succ, List.getElem_cons_zero, List.setIfInBounds_toArray, List.set_cons_zero, List.set_cons_succ]
          refine wpAnyH_take (i := 8) (v := .agg (secE sk).toArray) rfl (by kernel_rfl) (by kernel_rfl) (by kernel_rfl) (fun _ _ _ h => h) ?_ hHeld ?_
          · refine yieldsIf_load_mid ?_ 73 (.tmp 60) ?_ g8 (ys.length * 128) ?_ (secE sk) (.array 128 5) (hrk) Try.underlying73 ?_ ?_
            · rfl
            · rfl
            · kernel_rfl
            · rfl
            · exact sizeS.trans (congrArg some (by rw [secE_length, hsk]))
          try simp only [Act.put, List.getElem_toArray, List.getElem_cons_succ, List.getElem_cons_zero, List.setIfInBounds_toArray, List.set_cons_zero, List.set_cons_succ]
          have Hba := Lib.hid (H8.out.keep (w' := Wc.drew) (S' := S) (fun _ _ _ => rfl) (fun _ h => h))
          have hcsb := sec_at' Hba.out.hs Hba.out.ls i (by first | exact HI.out | (rw [List.length_set]; exact HI.out))
          have hth : (Wc.drew).there sb (i * 128) (secE sk).toArray.size := by
            rw [List.size_toArray, secE_length, hsk]
            exact there_sec hcsb (Hba.out.ls _ (List.getElem_mem _)) Hba.out.hs.free
          have hsz : (Try.prog.info? 73).map (·.size) = some (secE sk).toArray.size := sizeS.trans (congrArg some (by rw [List.size_toArray, secE_length, hsk]))
          have hone := one_sec sk
          have hOb : Only (· = sb) Wc (Wc.drew) := Only.drew Wc
          have hOb2 : Only (· = sb) Wc ((Wc.drew).setCells sb (i * 128) (secE sk).toArray.toList) := hOb.trans (Only.setCells _ (A := (· = sb)) rfl _ _)
          refine wpAnyH_ready (rs := [9]) (by kernel_rfl) (by simp) ?_
          refine allVal (v := .pointer (some ⟨sb, i * 128, none⟩)) (w' := Wc.drew) rfl (by kernel_rfl) ?_ hOb ?_ AllReadyH.nil
          · go_simp
          try simp only [Act.put, List.getElem_toArray, List.getElem_cons_succ, List.getElem_cons_zero, List.setIfInBounds_toArray, List.set_cons_zero, List.set_cons_succ]
          refine wpAnyH_ready (rs := [10]) (by kernel_rfl) (by simp) ?_
          refine allSkip (w' := Wc.drew.setCells sb (i * 128) (secE sk).toArray.toList) rfl (by kernel_rfl) (execStoreMid 73 (.tmp 62) (.tmp 61) rfl sb (i * 128) (secE sk).toArray (by kernel_rfl) (by kernel_rfl) hth hsz hone) hOb2 ?_ AllReadyH.nil
          try simp only [Act.put, List.getElem_toArray, List.getElem_cons_succ, List.getElem_cons_zero, List.setIfInBounds_toArray, List.set_cons_zero, List.set_cons_succ]
          refine wpAnyH_done (by kernel_rfl) ?_ _
          have Hst : Hid (DkIn (Wc.drew.setCells sb (i * 128) (secE sk).toArray.toList) S db sb wb kS kW ws' ⟨(d.upTo (fate d keep tn at') i).safe.set i sk, (d.upTo (fate d keep tn at') i).writes, d.fuse, d.down, d.ops⟩) := Lib.hid (Hba.out.store i HI.out sk hsk)
          have hszd : (Wc.drew.setCells sb (i * 128) (secE sk).toArray.toList).heap.size = Wc.heap.size := setCells_size _ _ _ _
          clear Hba hcsb hth hsz hone hOb hHeld
          generalize Wc.drew.setCells sb (i * 128) (secE sk).toArray.toList = Wd at *
          have hbd := hbox12 Wd hOb2
          have ht1 := hfate1 Wd hOb2
          by_cases htn : (c : Int) = tn
          · by_cases hk0 : 0 < ys.length
            · have hk0' : (0 : Int) < ((ys.length : Nat) : Int) := by omega
              gi_wp2_with fail
              have HkL1 := Lib.hid (show ys.length - 1 < (s0 :: ys).length by rw [List.length_cons]; omega)
              have hrk1 : ∀ w', Only (· = sb) Wc w' → CellsAt w' g8 ((ys.length - 1) * 128) (secE ((s0 :: ys).getD (ys.length - 1) [])) := fun w' hO => rows_at (hrow12 w' hO) Hrl.out _ HkL1.out
              have hsk1 := rows_len Hrl.out (ys.length - 1) HkL1.out
              have j2 : (0 : Int) ≤ ((ys.length - 1 : Nat) : Int) := by omega
              have j3 : ((ys.length - 1 : Nat) : Int) < (ys.length : Int) + 1 := by omega
              have hwk : IntKind.i64.wrap (((ys.length : Nat) : Int) - 1) = ((ys.length - 1 : Nat) : Int) := by rw [IntKind.wrap_i64]; omega
              have hOd := hOb2.trans (Only.drew (A := (· = sb)) Wd)
              refine wpIn_region_held (S := fun w' => Only (· = sb) Wc w') (by kernel_rfl) (by rintro ⟨a, w, h⟩; exact h) (by kernel_rfl) hOd (fun hHeld => ?_)
              generalize hSK1 : (s0 :: ys).getD (ys.length - 1) [] = sk1 at *
              refine wpAnyH_take (i := 0) (v := .pointer (some ⟨db, 0, none⟩)) rfl (by kernel_rfl) (by kernel_rfl) (by kernel_rfl) (fun _ _ _ h => h) (Or.inl ⟨by rfl, ?_⟩) hHeld ?_
              · intro w' hSw; have hcc := hbox12 w' hSw; go_simp
              try simp only [Act.put, List.getElem_toArray, List.getElem_cons_succ, List.getElem_cons_zero, List.setIfInBounds_toArray, List.set_cons_zero, List.set_cons_succ]
              refine wpAnyH_take (i := 1) (v := .pointer (some ⟨db, 0, none⟩)) rfl (by kernel_rfl) (by kernel_rfl) (by kernel_rfl) (fun _ _ _ h => h) (Or.inl ⟨by rfl, ?_⟩) hHeld ?_
              · intro w' hSw; go_simp
              try simp only [Act.put, List.getElem_toArray, List.getElem_cons_succ, List.getElem_cons_zero, List.setIfInBounds_toArray, List.set_cons_zero, List.set_cons_succ]
              refine wpAnyH_take (i := 2) (v := .pointer (some ⟨db, 0, none⟩)) rfl (by kernel_rfl) (by kernel_rfl) (by kernel_rfl) (fun _ _ _ h => h) (Or.inl ⟨by rfl, ?_⟩) hHeld ?_
              · intro w' hSw; go_simp
              try simp only [Act.put, List.getElem_toArray, List.getElem_cons_succ, List.getElem_cons_zero, List.setIfInBounds_toArray, List.set_cons_zero, List.set_cons_succ]
              refine wpAnyH_take (i := 3) (v := .slice (some ⟨sb, 0, none⟩) d.safe.length kS) rfl (by kernel_rfl) (by kernel_rfl) (by kernel_rfl) (fun _ _ _ h => h) (Or.inl ⟨by rfl, ?_⟩) hHeld ?_
              · intro w' hSw; have hcc := hsafe12 w' hSw; go_simp
              try simp only [Act.put, List.getElem_toArray, List.getElem_cons_succ, List.getElem_cons_zero, List.setIfInBounds_toArray, List.set_cons_zero, List.set_cons_succ]
              refine wpAnyH_take (i := 4) (v := .int .i64 i) rfl (by kernel_rfl) (by kernel_rfl) (by kernel_rfl) (fun _ _ _ h => h) (Or.inl ⟨by rfl, ?_⟩) hHeld ?_
              · intro w' hSw; go_simp
              try simp only [Act.put, List.getElem_toArray, List.getElem_cons_succ, List.getElem_cons_zero, List.setIfInBounds_toArray, List.set_cons_zero, List.set_cons_succ]
              refine wpAnyH_take (i := 5) (v := .slice (some ⟨g8, 0, none⟩) (ys.length + 1) cap8) rfl (by kernel_rfl) (by kernel_rfl) (by kernel_rfl) (fun _ _ _ h => h) (Or.inl ⟨by rfl, ?_⟩) hHeld ?_
              · intro w' hSw; go_simp
              try simp only [Act.put, List.getElem_toArray, List.getElem_cons_succ, List.getElem_cons_zero, List.setIfInBounds_toArray, List.set_cons_zero, List.set_cons_succ]
              refine wpAnyH_take (i := 6) (v := .int .i64 (ys.length : Nat)) rfl (by kernel_rfl) (by kernel_rfl) (by kernel_rfl) (fun _ _ _ h => h) (Or.inl ⟨by rfl, ?_⟩) hHeld ?_
              · intro w' hSw; go_simp
              try simp only [Act.put, List.getElem_toArray, List.getElem_cons_succ, List.getElem_cons_zero, List.setIfInBounds_toArray, List.set_cons_zero, List.set_cons_succ]
              refine wpAnyH_take (i := 7) (v := .pointer (some ⟨g8, ys.length * 128, none⟩)) rfl (by kernel_rfl) (by kernel_rfl) (by kernel_rfl) (fun _ _ _ h => h) (Or.inl ⟨by rfl, ?_⟩) hHeld ?_
              · intro w' hSw; go_simp
              try simp only [Act.put, List.getElem_toArray, List.getElem_cons_succ, List.getElem_cons_zero, List.setIfInBounds_toArray, List.set_cons_zero, List.set_cons_succ]
              refine wpAnyH_take (i := 8) (v := .agg (secE sk).toArray) rfl (by kernel_rfl) (by kernel_rfl) (by kernel_rfl) (fun _ _ _ h => h) ?_ hHeld ?_
              · refine yieldsIf_load_mid ?_ 73 (.tmp 78) ?_ g8 (ys.length * 128) ?_ (secE sk) (.array 128 5) (hrk) Try.underlying73 ?_ ?_
                · rfl
                · rfl
                · kernel_rfl
                · rfl
                · exact sizeS.trans (congrArg some (by rw [secE_length, hsk]))
              try simp only [Act.put, List.getElem_toArray, List.getElem_cons_succ, List.getElem_cons_zero, List.setIfInBounds_toArray, List.set_cons_zero, List.set_cons_succ]
              refine wpAnyH_take (i := 9) (v := .slice (some ⟨g8, 0, none⟩) (ys.length + 1) cap8) rfl (by kernel_rfl) (by kernel_rfl) (by kernel_rfl) (fun _ _ _ h => h) (Or.inl ⟨by rfl, ?_⟩) hHeld ?_
              · intro w' hSw; go_simp
              try simp only [Act.put, List.getElem_toArray, List.getElem_cons_succ, List.getElem_cons_zero, List.setIfInBounds_toArray, List.set_cons_zero, List.set_cons_succ]
              refine wpAnyH_take (i := 10) (v := .int .i64 (ys.length : Nat)) rfl (by kernel_rfl) (by kernel_rfl) (by kernel_rfl) (fun _ _ _ h => h) (Or.inl ⟨by rfl, ?_⟩) hHeld ?_
              · intro w' hSw; go_simp
              try simp only [Act.put, List.getElem_toArray, List.getElem_cons_succ, List.getElem_cons_zero, List.setIfInBounds_toArray, List.set_cons_zero, List.set_cons_succ]
              refine wpAnyH_take (i := 11) (v := .int .i64 (ys.length - 1 : Nat)) rfl (by kernel_rfl) (by kernel_rfl) (by kernel_rfl) (fun _ _ _ h => h) (Or.inl ⟨by rfl, ?_⟩) hHeld ?_
              · intro w' hSw; have hcc := hwk; go_simp
              try simp only [Act.put, List.getElem_toArray, List.getElem_cons_succ, List.getElem_cons_zero, List.setIfInBounds_toArray, List.set_cons_zero, List.set_cons_succ]
              refine wpAnyH_take (i := 12) (v := .pointer (some ⟨g8, (ys.length - 1) * 128, none⟩)) rfl (by kernel_rfl) (by kernel_rfl) (by kernel_rfl) (fun _ _ _ h => h) (Or.inl ⟨by rfl, ?_⟩) hHeld ?_
              · intro w' hSw; go_simp
              try simp only [Act.put, List.getElem_toArray, List.getElem_cons_succ, List.getElem_cons_zero, List.setIfInBounds_toArray, List.set_cons_zero, List.set_cons_succ]
              refine wpAnyH_take (i := 13) (v := .agg (secE sk1).toArray) rfl (by kernel_rfl) (by kernel_rfl) (by kernel_rfl) (fun _ _ _ h => h) ?_ hHeld ?_
              · refine yieldsIf_load_mid ?_ 73 (.tmp 83) ?_ g8 ((ys.length - 1) * 128) ?_ (secE sk1) (.array 128 5) (hrk1) Try.underlying73 ?_ ?_
                · rfl
                · rfl
                · kernel_rfl
                · rfl
                · exact sizeS.trans (congrArg some (by rw [secE_length, hsk1]))
              try simp only [Act.put, List.getElem_toArray, List.getElem_cons_succ, List.getElem_cons_zero, List.setIfInBounds_toArray, List.set_cons_zero, List.set_cons_succ]
              refine wpAnyH_take (i := 14) (v := .pointer (some ⟨w.heap.size + 1, 2, none⟩)) rfl (by kernel_rfl) (by kernel_rfl) (by kernel_rfl) (fun _ _ _ h => h) (Or.inl ⟨by rfl, ?_⟩) hHeld ?_
              · intro w' hSw; go_simp
              try simp only [Act.put, List.getElem_toArray, List.getElem_cons_succ, List.getElem_cons_zero, List.setIfInBounds_toArray, List.set_cons_zero, List.set_cons_succ]
              refine wpAnyH_take (i := 15) (v := .int .i64 at') rfl (by kernel_rfl) (by kernel_rfl) (by kernel_rfl) (fun _ _ _ h => h) (Or.inl ⟨by rfl, ?_⟩) hHeld ?_
              · intro w' hSw; have hcc := hfate2 w' hSw; go_simp
              try simp only [Act.put, List.getElem_toArray, List.getElem_cons_succ, List.getElem_cons_zero, List.setIfInBounds_toArray, List.set_cons_zero, List.set_cons_succ]
              refine wpAnyH_ready (rs := [16]) (by kernel_rfl) (by simp) ?_
              refine allCall (f := 35) (args := #[.agg (secE sk).toArray, .agg (secE sk1).toArray, .int .i64 at']) rfl (by kernel_rfl) ?_ ?_ AllReadyH.nil
              · go_simp
              refine torn_any sk sk1 hsk hsk1 at' Wd.drew _ (fun Wt hBt => ⟨_, rfl, hOd.trans (Below.only hBt), ?_⟩)
              have hst := tornP_length sk sk1 at' hsk hsk1
              generalize hTV : tornP sk sk1 at' = tv at *
              try simp only [Act.put, List.getElem_toArray, List.getElem_cons_succ, List.getElem_cons_zero, List.setIfInBounds_toArray, List.set_cons_zero, List.set_cons_succ]
              have hOt := hOd.trans (Below.only (A := (· = sb)) hBt)
              clear hOb2
              have Hba := Lib.hid (Hst.out.keep (w' := Wt) (S' := S) (fun k _ hlt => hBt.block k hlt) (fun _ h => h))
              have hcsb := sec_at' Hba.out.hs Hba.out.ls i (by first | exact HI.out | (rw [List.length_set]; exact HI.out))
              have hth : (Wt).there sb (i * 128) (secE tv).toArray.size := by
                rw [List.size_toArray, secE_length, hst]
                exact there_sec hcsb (Hba.out.ls _ (List.getElem_mem _)) Hba.out.hs.free
              have hsz : (Try.prog.info? 73).map (·.size) = some (secE tv).toArray.size := sizeS.trans (congrArg some (by rw [List.size_toArray, secE_length, hst]))
              have hone := one_sec tv
              have hOb : Only (· = sb) Wc (Wt) := hOt
              have hOb2 : Only (· = sb) Wc ((Wt).setCells sb (i * 128) (secE tv).toArray.toList) := hOb.trans (Only.setCells _ (A := (· = sb)) rfl _ _)
              refine wpAnyH_ready (rs := [17]) (by kernel_rfl) (by simp) ?_
              refine allVal (v := .pointer (some ⟨sb, i * 128, none⟩)) (w' := Wt) rfl (by kernel_rfl) ?_ hOb ?_ AllReadyH.nil
              · go_simp
              try simp only [Act.put, List.getElem_toArray, List.getElem_cons_succ, List.getElem_cons_zero, List.setIfInBounds_toArray, List.set_cons_zero, List.set_cons_succ]
              refine wpAnyH_ready (rs := [18]) (by kernel_rfl) (by simp) ?_
              refine allSkip (w' := Wt.setCells sb (i * 128) (secE tv).toArray.toList) rfl (by kernel_rfl) (execStoreMid 73 (.tmp 88) (.tmp 87) rfl sb (i * 128) (secE tv).toArray (by kernel_rfl) (by kernel_rfl) hth hsz hone) hOb2 ?_ AllReadyH.nil
              try simp only [Act.put, List.getElem_toArray, List.getElem_cons_succ, List.getElem_cons_zero, List.setIfInBounds_toArray, List.set_cons_zero, List.set_cons_succ]
              refine wpAnyH_done (by kernel_rfl) ?_ _
              have HX : Hid (DkIn (Wt.setCells sb (i * 128) (secE tv).toArray.toList) S db sb wb kS kW ws' ⟨(d.upTo (fate d keep tn at') i).safe.set i tv, (d.upTo (fate d keep tn at') i).writes, d.fuse, d.down, d.ops⟩) := by
                have e := Hba.out.store i (by rw [List.length_set]; exact HI.out) tv hst
                simp only [List.set_set] at e
                exact Lib.hid e
              have Hfate := Lib.hid (show fate d keep tn at' i = tv by rw [fate, hyse, if_neg Hzn.out, hs0e, ← Jc.out, hpk, if_pos ⟨htn, hk0⟩, hSK, hSK1, hTV])
              have HOX : Hid (Only S W3 (Wt.setCells sb (i * 128) (secE tv).toArray.toList)) := Lib.hid ((hOc.mono (fun _ _ h => h.elim)).trans (hOb2.mono (fun k _ e => by rw [e]; exact HSsb.out)))
              have Hl6 := Lib.hid ((hOb2.block L (by omega) (by have := HS3.out sb HSsb.out; omega)).trans HlC.out)
              have HD6 := Lib.hid ((hOb2.block W4.heap.size (by omega) (by have := HS3.out sb HSsb.out; omega)).trans HDC.out)
              have hbd2 := hbox12 _ hOb2
              clear hbd hbox12 hsafe12 hrow12 hrk hrk1 hfate1 hfate2 hOc hOb2 hOb hOd hOt H8 Hst ht1 hpk HlC HDC Hba hcsb hth hsz hone hBt hHeld hwk
              generalize Wt.setCells sb (i * 128) (secE tv).toArray.toList = Wx at *
              have hlw6 : i < ws'.length := by have e1 := HX.out.lw; rw [List.length_set, hlen1] at e1; omega
              have cwi : Wx.cell? ⟨wb, i, none⟩ = some ws'[i] := by have := HX.out.hw.cells i ws'[i] (List.getElem?_eq_getElem hlw6); rwa [Nat.zero_add] at this
              have fwi := HX.out.hw.free i
              have cdb : Wx.cell? ⟨db, 1, none⟩ = some (.slice (some ⟨wb, 0, none⟩) d.safe.length kW) := by
                have e1 := HX.out.hd.cells.c5.2.1
                rw [Nat.zero_add, List.length_set, hlen1] at e1
                exact e1
              have HDr := Lib.hid (HX.out.drop i hlw6)
              have hsw := HX.out.sw
              have hs6 := HOX.out.size
              have hWB : wb < Wx.heap.size := HX.out.hw.lt
              clear HX
              gi_wp2_with fail
              have hwS := HS3.out wb hsw
              have h9 : Only (· = wb) Wx (Wx.setCell ⟨wb, i, none⟩ (.slice none 0 0)) := Only.setCell (A := (· = wb)) Wx (p := ⟨wb, i, none⟩) rfl _
              have hl9 := (h9.block L (by omega) (by omega)).trans Hl6.out
              have hD9 := (h9.block W4.heap.size (by omega) (by omega)).trans HD6.out
              have hs9 := h9.size
              refine roundPost_normalR HRL.out hl9 ?_
              have h10 : Only (· = L) (Wx.setCell ⟨wb, i, none⟩ (.slice none 0 0)) ((Wx.setCell ⟨wb, i, none⟩ (.slice none 0 0)).putObj L (.loop (RL .ready none))) := Only.putObj (A := (· = L)) _ (b := L) rfl _
              have hl10 : ((Wx.setCell ⟨wb, i, none⟩ (.slice none 0 0)).putObj L (.loop (RL .ready none))).heap[L]? = some (.loop (RL .ready none)) := World.putObj_heap_same (by omega)
              have hD10 := (h10.block W4.heap.size (by omega) (by omega)).trans hD9
              have hs10 := h10.size
              have H10 := HDr.out.keep (S' := S) (fun k hk _ => h10.block k (by have := HS3.out k hk; omega) (by have := HS3.out k hk; omega)) (fun _ h => h)
              refine ⟨rfl, ⟨?_, ?_, ?_, ?_, fun k hk hn => ?_⟩, ⟨_, by rw [d.upTo_step, Hfate.out]; exact H10⟩, by rw [cnt, hyse, if_neg Hzn.out, Jc.out], hl10, hD10⟩
              · exact h10.os.trans (h9.os.trans (HOX.out.os.trans (Ho3.out.os.trans Hj1.out.os)))
              · exact h10.tape.trans (h9.tape.trans (HOX.out.tape.trans (Ho3.out.tape.trans Hj1.out.tape)))
              · exact h10.output.trans (h9.output.trans (HOX.out.output.trans (Ho3.out.output.trans Hj1.out.output)))
              · have := Hj1.out.size; omega
              · have hk1 := Hj1.out.size
                by_cases hkL2 : k = L
                · subst hkL2
                  exact hl10.trans (Hj4.out.symm.trans (Hj1.out.block k hk hn))
                · exact (h10.block k (by omega) hkL2).trans ((h9.block k (by omega) (fun e => hn (e ▸ hsw))).trans ((HOX.out.block k (by omega) hn).trans ((Ho3.out.block k (by omega) hkL2).trans (Hj1.out.block k hk hn))))
            · exact absurd (List.length_pos_iff.2 Hzn.out) hk0
          · have Hfate := Lib.hid (show fate d keep tn at' i = sk by rw [fate, hyse, if_neg Hzn.out, hs0e, ← Jc.out, hpk, if_neg (by omega), hSK])
            have HOX : Hid (Only S W3 (Wd)) := Lib.hid ((hOc.mono (fun _ _ h => h.elim)).trans (hOb2.mono (fun k _ e => by rw [e]; exact HSsb.out)))
            have Hl6 := Lib.hid ((hOb2.block L (by omega) (by have := HS3.out sb HSsb.out; omega)).trans HlC.out)
            have HD6 := Lib.hid ((hOb2.block W4.heap.size (by omega) (by have := HS3.out sb HSsb.out; omega)).trans HDC.out)
            have HX := Hst
            clear hbox12 hsafe12 hrow12 hrk hfate1 hfate2 hOc hOb2 H8 Hst hpk HlC HDC
            generalize Wd = Wx at *
            have hlw6 : i < ws'.length := by have e1 := HX.out.lw; rw [List.length_set, hlen1] at e1; omega
            have cwi : Wx.cell? ⟨wb, i, none⟩ = some ws'[i] := by have := HX.out.hw.cells i ws'[i] (List.getElem?_eq_getElem hlw6); rwa [Nat.zero_add] at this
            have fwi := HX.out.hw.free i
            have cdb : Wx.cell? ⟨db, 1, none⟩ = some (.slice (some ⟨wb, 0, none⟩) d.safe.length kW) := by
              have e1 := HX.out.hd.cells.c5.2.1
              rw [Nat.zero_add, List.length_set, hlen1] at e1
              exact e1
            have HDr := Lib.hid (HX.out.drop i hlw6)
            have hsw := HX.out.sw
            have hs6 := HOX.out.size
            have hWB : wb < Wx.heap.size := HX.out.hw.lt
            clear HX
            gi_wp2_with fail
            have hwS := HS3.out wb hsw
            have h9 : Only (· = wb) Wx (Wx.setCell ⟨wb, i, none⟩ (.slice none 0 0)) := Only.setCell (A := (· = wb)) Wx (p := ⟨wb, i, none⟩) rfl _
            have hl9 := (h9.block L (by omega) (by omega)).trans Hl6.out
            have hD9 := (h9.block W4.heap.size (by omega) (by omega)).trans HD6.out
            have hs9 := h9.size
            refine roundPost_normalR HRL.out hl9 ?_
            have h10 : Only (· = L) (Wx.setCell ⟨wb, i, none⟩ (.slice none 0 0)) ((Wx.setCell ⟨wb, i, none⟩ (.slice none 0 0)).putObj L (.loop (RL .ready none))) := Only.putObj (A := (· = L)) _ (b := L) rfl _
            have hl10 : ((Wx.setCell ⟨wb, i, none⟩ (.slice none 0 0)).putObj L (.loop (RL .ready none))).heap[L]? = some (.loop (RL .ready none)) := World.putObj_heap_same (by omega)
            have hD10 := (h10.block W4.heap.size (by omega) (by omega)).trans hD9
            have hs10 := h10.size
            have H10 := HDr.out.keep (S' := S) (fun k hk _ => h10.block k (by have := HS3.out k hk; omega) (by have := HS3.out k hk; omega)) (fun _ h => h)
            refine ⟨rfl, ⟨?_, ?_, ?_, ?_, fun k hk hn => ?_⟩, ⟨_, by rw [d.upTo_step, Hfate.out]; exact H10⟩, by rw [cnt, hyse, if_neg Hzn.out, Jc.out], hl10, hD10⟩
            · exact h10.os.trans (h9.os.trans (HOX.out.os.trans (Ho3.out.os.trans Hj1.out.os)))
            · exact h10.tape.trans (h9.tape.trans (HOX.out.tape.trans (Ho3.out.tape.trans Hj1.out.tape)))
            · exact h10.output.trans (h9.output.trans (HOX.out.output.trans (Ho3.out.output.trans Hj1.out.output)))
            · have := Hj1.out.size; omega
            · have hk1 := Hj1.out.size
              by_cases hkL2 : k = L
              · subst hkL2
                exact hl10.trans (Hj4.out.symm.trans (Hj1.out.block k hk hn))
              · exact (h10.block k (by omega) hkL2).trans ((h9.block k (by omega) (fun e => hn (e ▸ hsw))).trans ((HOX.out.block k (by omega) hn).trans ((Ho3.out.block k (by omega) hkL2).trans (Hj1.out.block k hk hn))))
        · have hmn' : ¬ (ys.length : Int) < (kc : Int) := by omega
          have hpk : pickP ys.length keep c = kc := by rw [hpk0]; omega
          gi_wp2_with fail
          have HkL := Lib.hid (show kc < (s0 :: ys).length by rw [List.length_cons]; omega)
          have hrk : ∀ w', Only (· = sb) Wc w' → CellsAt w' g8 (kc * 128) (secE ((s0 :: ys).getD kc [])) := fun w' hO => rows_at (hrow12 w' hO) Hrl.out kc HkL.out
          have hsk := rows_len Hrl.out kc HkL.out
          have j0 : (0 : Int) ≤ ((kc : Nat) : Int) := by omega
          have j1 : ((kc : Nat) : Int) < (ys.length : Int) + 1 := by omega
          refine wpIn_region_held (S := fun w' => Only (· = sb) Wc w') (by kernel_rfl) (by rintro ⟨a, w, h⟩; exact h) (by kernel_rfl) (Only.drew Wc) (fun hHeld => ?_)
          generalize hSK : (s0 :: ys).getD kc [] = sk at *
          refine wpAnyH_take (i := 0) (v := .pointer (some ⟨db, 0, none⟩)) rfl (by kernel_rfl) (by kernel_rfl) (by kernel_rfl) (fun _ _ _ h => h) (Or.inl ⟨by rfl, ?_⟩) hHeld ?_
          · intro w' hSw; have hcc := hbox12 w' hSw; go_simp
          try simp only [Act.put, List.getElem_toArray, List.getElem_cons_succ, List.getElem_cons_zero, List.setIfInBounds_toArray, List.set_cons_zero, List.set_cons_succ]
          refine wpAnyH_take (i := 1) (v := .pointer (some ⟨db, 0, none⟩)) rfl (by kernel_rfl) (by kernel_rfl) (by kernel_rfl) (fun _ _ _ h => h) (Or.inl ⟨by rfl, ?_⟩) hHeld ?_
          · intro w' hSw; go_simp
          try simp only [Act.put, List.getElem_toArray, List.getElem_cons_succ, List.getElem_cons_zero, List.setIfInBounds_toArray, List.set_cons_zero, List.set_cons_succ]
          refine wpAnyH_take (i := 2) (v := .pointer (some ⟨db, 0, none⟩)) rfl (by kernel_rfl) (by kernel_rfl) (by kernel_rfl) (fun _ _ _ h => h) (Or.inl ⟨by rfl, ?_⟩) hHeld ?_
          · intro w' hSw; go_simp
          try simp only [Act.put, List.getElem_toArray, List.getElem_cons_succ, List.getElem_cons_zero, List.setIfInBounds_toArray, List.set_cons_zero, List.set_cons_succ]
          refine wpAnyH_take (i := 3) (v := .slice (some ⟨sb, 0, none⟩) d.safe.length kS) rfl (by kernel_rfl) (by kernel_rfl) (by kernel_rfl) (fun _ _ _ h => h) (Or.inl ⟨by rfl, ?_⟩) hHeld ?_
          · intro w' hSw; have hcc := hsafe12 w' hSw; go_simp
          try simp only [Act.put, List.getElem_toArray, List.getElem_cons_succ, List.getElem_cons_zero, List.setIfInBounds_toArray, List.set_cons_zero, List.set_cons_succ]
          refine wpAnyH_take (i := 4) (v := .int .i64 i) rfl (by kernel_rfl) (by kernel_rfl) (by kernel_rfl) (fun _ _ _ h => h) (Or.inl ⟨by rfl, ?_⟩) hHeld ?_
          · intro w' hSw; go_simp
          try simp only [Act.put, List.getElem_toArray, List.getElem_cons_succ, List.getElem_cons_zero, List.setIfInBounds_toArray, List.set_cons_zero, List.set_cons_succ]
          refine wpAnyH_take (i := 5) (v := .slice (some ⟨g8, 0, none⟩) (ys.length + 1) cap8) rfl (by kernel_rfl) (by kernel_rfl) (by kernel_rfl) (fun _ _ _ h => h) (Or.inl ⟨by rfl, ?_⟩) hHeld ?_
          · intro w' hSw; go_simp
          try simp only [Act.put, List.getElem_toArray, List.getElem_cons_succ, List.getElem_cons_zero, List.setIfInBounds_toArray, List.set_cons_zero, List.set_cons_succ]
          refine wpAnyH_take (i := 6) (v := .int .i64 (kc : Nat)) rfl (by kernel_rfl) (by kernel_rfl) (by kernel_rfl) (fun _ _ _ h => h) (Or.inl ⟨by rfl, ?_⟩) hHeld ?_
          · intro w' hSw; go_simp
          try simp only [Act.put, List.getElem_toArray, List.getElem_cons_succ, List.getElem_cons_zero, List.setIfInBounds_toArray, List.set_cons_zero, List.set_cons_succ]
          refine wpAnyH_take (i := 7) (v := .pointer (some ⟨g8, kc * 128, none⟩)) rfl (by kernel_rfl) (by kernel_rfl) (by kernel_rfl) (fun _ _ _ h => h) (Or.inl ⟨by rfl, ?_⟩) hHeld ?_
          · intro w' hSw; go_simp
          try simp only [Act.put, List.getElem_toArray, List.getElem_cons_succ, List.getElem_cons_zero, List.setIfInBounds_toArray, List.set_cons_zero, List.set_cons_succ]
          refine wpAnyH_take (i := 8) (v := .agg (secE sk).toArray) rfl (by kernel_rfl) (by kernel_rfl) (by kernel_rfl) (fun _ _ _ h => h) ?_ hHeld ?_
          · refine yieldsIf_load_mid ?_ 73 (.tmp 60) ?_ g8 (kc * 128) ?_ (secE sk) (.array 128 5) (hrk) Try.underlying73 ?_ ?_
            · rfl
            · rfl
            · kernel_rfl
            · rfl
            · exact sizeS.trans (congrArg some (by rw [secE_length, hsk]))
          try simp only [Act.put, List.getElem_toArray, List.getElem_cons_succ, List.getElem_cons_zero, List.setIfInBounds_toArray, List.set_cons_zero, List.set_cons_succ]
          have Hba := Lib.hid (H8.out.keep (w' := Wc.drew) (S' := S) (fun _ _ _ => rfl) (fun _ h => h))
          have hcsb := sec_at' Hba.out.hs Hba.out.ls i (by first | exact HI.out | (rw [List.length_set]; exact HI.out))
          have hth : (Wc.drew).there sb (i * 128) (secE sk).toArray.size := by
            rw [List.size_toArray, secE_length, hsk]
            exact there_sec hcsb (Hba.out.ls _ (List.getElem_mem _)) Hba.out.hs.free
          have hsz : (Try.prog.info? 73).map (·.size) = some (secE sk).toArray.size := sizeS.trans (congrArg some (by rw [List.size_toArray, secE_length, hsk]))
          have hone := one_sec sk
          have hOb : Only (· = sb) Wc (Wc.drew) := Only.drew Wc
          have hOb2 : Only (· = sb) Wc ((Wc.drew).setCells sb (i * 128) (secE sk).toArray.toList) := hOb.trans (Only.setCells _ (A := (· = sb)) rfl _ _)
          refine wpAnyH_ready (rs := [9]) (by kernel_rfl) (by simp) ?_
          refine allVal (v := .pointer (some ⟨sb, i * 128, none⟩)) (w' := Wc.drew) rfl (by kernel_rfl) ?_ hOb ?_ AllReadyH.nil
          · go_simp
          try simp only [Act.put, List.getElem_toArray, List.getElem_cons_succ, List.getElem_cons_zero, List.setIfInBounds_toArray, List.set_cons_zero, List.set_cons_succ]
          refine wpAnyH_ready (rs := [10]) (by kernel_rfl) (by simp) ?_
          refine allSkip (w' := Wc.drew.setCells sb (i * 128) (secE sk).toArray.toList) rfl (by kernel_rfl) (execStoreMid 73 (.tmp 62) (.tmp 61) rfl sb (i * 128) (secE sk).toArray (by kernel_rfl) (by kernel_rfl) hth hsz hone) hOb2 ?_ AllReadyH.nil
          try simp only [Act.put, List.getElem_toArray, List.getElem_cons_succ, List.getElem_cons_zero, List.setIfInBounds_toArray, List.set_cons_zero, List.set_cons_succ]
          refine wpAnyH_done (by kernel_rfl) ?_ _
          have Hst : Hid (DkIn (Wc.drew.setCells sb (i * 128) (secE sk).toArray.toList) S db sb wb kS kW ws' ⟨(d.upTo (fate d keep tn at') i).safe.set i sk, (d.upTo (fate d keep tn at') i).writes, d.fuse, d.down, d.ops⟩) := Lib.hid (Hba.out.store i HI.out sk hsk)
          have hszd : (Wc.drew.setCells sb (i * 128) (secE sk).toArray.toList).heap.size = Wc.heap.size := setCells_size _ _ _ _
          clear Hba hcsb hth hsz hone hOb hHeld
          generalize Wc.drew.setCells sb (i * 128) (secE sk).toArray.toList = Wd at *
          have hbd := hbox12 Wd hOb2
          have ht1 := hfate1 Wd hOb2
          by_cases htn : (c : Int) = tn
          · by_cases hk0 : 0 < kc
            · have hk0' : (0 : Int) < ((kc : Nat) : Int) := by omega
              gi_wp2_with fail
              have HkL1 := Lib.hid (show kc - 1 < (s0 :: ys).length by rw [List.length_cons]; omega)
              have hrk1 : ∀ w', Only (· = sb) Wc w' → CellsAt w' g8 ((kc - 1) * 128) (secE ((s0 :: ys).getD (kc - 1) [])) := fun w' hO => rows_at (hrow12 w' hO) Hrl.out _ HkL1.out
              have hsk1 := rows_len Hrl.out (kc - 1) HkL1.out
              have j2 : (0 : Int) ≤ ((kc - 1 : Nat) : Int) := by omega
              have j3 : ((kc - 1 : Nat) : Int) < (ys.length : Int) + 1 := by omega
              have hwk : IntKind.i64.wrap (((kc : Nat) : Int) - 1) = ((kc - 1 : Nat) : Int) := by rw [IntKind.wrap_i64]; omega
              have hOd := hOb2.trans (Only.drew (A := (· = sb)) Wd)
              refine wpIn_region_held (S := fun w' => Only (· = sb) Wc w') (by kernel_rfl) (by rintro ⟨a, w, h⟩; exact h) (by kernel_rfl) hOd (fun hHeld => ?_)
              generalize hSK1 : (s0 :: ys).getD (kc - 1) [] = sk1 at *
              refine wpAnyH_take (i := 0) (v := .pointer (some ⟨db, 0, none⟩)) rfl (by kernel_rfl) (by kernel_rfl) (by kernel_rfl) (fun _ _ _ h => h) (Or.inl ⟨by rfl, ?_⟩) hHeld ?_
              · intro w' hSw; have hcc := hbox12 w' hSw; go_simp
              try simp only [Act.put, List.getElem_toArray, List.getElem_cons_succ, List.getElem_cons_zero, List.setIfInBounds_toArray, List.set_cons_zero, List.set_cons_succ]
              refine wpAnyH_take (i := 1) (v := .pointer (some ⟨db, 0, none⟩)) rfl (by kernel_rfl) (by kernel_rfl) (by kernel_rfl) (fun _ _ _ h => h) (Or.inl ⟨by rfl, ?_⟩) hHeld ?_
              · intro w' hSw; go_simp
              try simp only [Act.put, List.getElem_toArray, List.getElem_cons_succ, List.getElem_cons_zero, List.setIfInBounds_toArray, List.set_cons_zero, List.set_cons_succ]
              refine wpAnyH_take (i := 2) (v := .pointer (some ⟨db, 0, none⟩)) rfl (by kernel_rfl) (by kernel_rfl) (by kernel_rfl) (fun _ _ _ h => h) (Or.inl ⟨by rfl, ?_⟩) hHeld ?_
              · intro w' hSw; go_simp
              try simp only [Act.put, List.getElem_toArray, List.getElem_cons_succ, List.getElem_cons_zero, List.setIfInBounds_toArray, List.set_cons_zero, List.set_cons_succ]
              refine wpAnyH_take (i := 3) (v := .slice (some ⟨sb, 0, none⟩) d.safe.length kS) rfl (by kernel_rfl) (by kernel_rfl) (by kernel_rfl) (fun _ _ _ h => h) (Or.inl ⟨by rfl, ?_⟩) hHeld ?_
              · intro w' hSw; have hcc := hsafe12 w' hSw; go_simp
              try simp only [Act.put, List.getElem_toArray, List.getElem_cons_succ, List.getElem_cons_zero, List.setIfInBounds_toArray, List.set_cons_zero, List.set_cons_succ]
              refine wpAnyH_take (i := 4) (v := .int .i64 i) rfl (by kernel_rfl) (by kernel_rfl) (by kernel_rfl) (fun _ _ _ h => h) (Or.inl ⟨by rfl, ?_⟩) hHeld ?_
              · intro w' hSw; go_simp
              try simp only [Act.put, List.getElem_toArray, List.getElem_cons_succ, List.getElem_cons_zero, List.setIfInBounds_toArray, List.set_cons_zero, List.set_cons_succ]
              refine wpAnyH_take (i := 5) (v := .slice (some ⟨g8, 0, none⟩) (ys.length + 1) cap8) rfl (by kernel_rfl) (by kernel_rfl) (by kernel_rfl) (fun _ _ _ h => h) (Or.inl ⟨by rfl, ?_⟩) hHeld ?_
              · intro w' hSw; go_simp
              try simp only [Act.put, List.getElem_toArray, List.getElem_cons_succ, List.getElem_cons_zero, List.setIfInBounds_toArray, List.set_cons_zero, List.set_cons_succ]
              refine wpAnyH_take (i := 6) (v := .int .i64 (kc : Nat)) rfl (by kernel_rfl) (by kernel_rfl) (by kernel_rfl) (fun _ _ _ h => h) (Or.inl ⟨by rfl, ?_⟩) hHeld ?_
              · intro w' hSw; go_simp
              try simp only [Act.put, List.getElem_toArray, List.getElem_cons_succ, List.getElem_cons_zero, List.setIfInBounds_toArray, List.set_cons_zero, List.set_cons_succ]
              refine wpAnyH_take (i := 7) (v := .pointer (some ⟨g8, kc * 128, none⟩)) rfl (by kernel_rfl) (by kernel_rfl) (by kernel_rfl) (fun _ _ _ h => h) (Or.inl ⟨by rfl, ?_⟩) hHeld ?_
              · intro w' hSw; go_simp
              try simp only [Act.put, List.getElem_toArray, List.getElem_cons_succ, List.getElem_cons_zero, List.setIfInBounds_toArray, List.set_cons_zero, List.set_cons_succ]
              refine wpAnyH_take (i := 8) (v := .agg (secE sk).toArray) rfl (by kernel_rfl) (by kernel_rfl) (by kernel_rfl) (fun _ _ _ h => h) ?_ hHeld ?_
              · refine yieldsIf_load_mid ?_ 73 (.tmp 78) ?_ g8 (kc * 128) ?_ (secE sk) (.array 128 5) (hrk) Try.underlying73 ?_ ?_
                · rfl
                · rfl
                · kernel_rfl
                · rfl
                · exact sizeS.trans (congrArg some (by rw [secE_length, hsk]))
              try simp only [Act.put, List.getElem_toArray, List.getElem_cons_succ, List.getElem_cons_zero, List.setIfInBounds_toArray, List.set_cons_zero, List.set_cons_succ]
              refine wpAnyH_take (i := 9) (v := .slice (some ⟨g8, 0, none⟩) (ys.length + 1) cap8) rfl (by kernel_rfl) (by kernel_rfl) (by kernel_rfl) (fun _ _ _ h => h) (Or.inl ⟨by rfl, ?_⟩) hHeld ?_
              · intro w' hSw; go_simp
              try simp only [Act.put, List.getElem_toArray, List.getElem_cons_succ, List.getElem_cons_zero, List.setIfInBounds_toArray, List.set_cons_zero, List.set_cons_succ]
              refine wpAnyH_take (i := 10) (v := .int .i64 (kc : Nat)) rfl (by kernel_rfl) (by kernel_rfl) (by kernel_rfl) (fun _ _ _ h => h) (Or.inl ⟨by rfl, ?_⟩) hHeld ?_
              · intro w' hSw; go_simp
              try simp only [Act.put, List.getElem_toArray, List.getElem_cons_succ, List.getElem_cons_zero, List.setIfInBounds_toArray, List.set_cons_zero, List.set_cons_succ]
              refine wpAnyH_take (i := 11) (v := .int .i64 (kc - 1 : Nat)) rfl (by kernel_rfl) (by kernel_rfl) (by kernel_rfl) (fun _ _ _ h => h) (Or.inl ⟨by rfl, ?_⟩) hHeld ?_
              · intro w' hSw; have hcc := hwk; go_simp
              try simp only [Act.put, List.getElem_toArray, List.getElem_cons_succ, List.getElem_cons_zero, List.setIfInBounds_toArray, List.set_cons_zero, List.set_cons_succ]
              refine wpAnyH_take (i := 12) (v := .pointer (some ⟨g8, (kc - 1) * 128, none⟩)) rfl (by kernel_rfl) (by kernel_rfl) (by kernel_rfl) (fun _ _ _ h => h) (Or.inl ⟨by rfl, ?_⟩) hHeld ?_
              · intro w' hSw; go_simp
              try simp only [Act.put, List.getElem_toArray, List.getElem_cons_succ, List.getElem_cons_zero, List.setIfInBounds_toArray, List.set_cons_zero, List.set_cons_succ]
              refine wpAnyH_take (i := 13) (v := .agg (secE sk1).toArray) rfl (by kernel_rfl) (by kernel_rfl) (by kernel_rfl) (fun _ _ _ h => h) ?_ hHeld ?_
              · refine yieldsIf_load_mid ?_ 73 (.tmp 83) ?_ g8 ((kc - 1) * 128) ?_ (secE sk1) (.array 128 5) (hrk1) Try.underlying73 ?_ ?_
                · rfl
                · rfl
                · kernel_rfl
                · rfl
                · exact sizeS.trans (congrArg some (by rw [secE_length, hsk1]))
              try simp only [Act.put, List.getElem_toArray, List.getElem_cons_succ, List.getElem_cons_zero, List.setIfInBounds_toArray, List.set_cons_zero, List.set_cons_succ]
              refine wpAnyH_take (i := 14) (v := .pointer (some ⟨w.heap.size + 1, 2, none⟩)) rfl (by kernel_rfl) (by kernel_rfl) (by kernel_rfl) (fun _ _ _ h => h) (Or.inl ⟨by rfl, ?_⟩) hHeld ?_
              · intro w' hSw; go_simp
              try simp only [Act.put, List.getElem_toArray, List.getElem_cons_succ, List.getElem_cons_zero, List.setIfInBounds_toArray, List.set_cons_zero, List.set_cons_succ]
              refine wpAnyH_take (i := 15) (v := .int .i64 at') rfl (by kernel_rfl) (by kernel_rfl) (by kernel_rfl) (fun _ _ _ h => h) (Or.inl ⟨by rfl, ?_⟩) hHeld ?_
              · intro w' hSw; have hcc := hfate2 w' hSw; go_simp
              try simp only [Act.put, List.getElem_toArray, List.getElem_cons_succ, List.getElem_cons_zero, List.setIfInBounds_toArray, List.set_cons_zero, List.set_cons_succ]
              refine wpAnyH_ready (rs := [16]) (by kernel_rfl) (by simp) ?_
              refine allCall (f := 35) (args := #[.agg (secE sk).toArray, .agg (secE sk1).toArray, .int .i64 at']) rfl (by kernel_rfl) ?_ ?_ AllReadyH.nil
              · go_simp
              refine torn_any sk sk1 hsk hsk1 at' Wd.drew _ (fun Wt hBt => ⟨_, rfl, hOd.trans (Below.only hBt), ?_⟩)
              have hst := tornP_length sk sk1 at' hsk hsk1
              generalize hTV : tornP sk sk1 at' = tv at *
              try simp only [Act.put, List.getElem_toArray, List.getElem_cons_succ, List.getElem_cons_zero, List.setIfInBounds_toArray, List.set_cons_zero, List.set_cons_succ]
              have hOt := hOd.trans (Below.only (A := (· = sb)) hBt)
              clear hOb2
              have Hba := Lib.hid (Hst.out.keep (w' := Wt) (S' := S) (fun k _ hlt => hBt.block k hlt) (fun _ h => h))
              have hcsb := sec_at' Hba.out.hs Hba.out.ls i (by first | exact HI.out | (rw [List.length_set]; exact HI.out))
              have hth : (Wt).there sb (i * 128) (secE tv).toArray.size := by
                rw [List.size_toArray, secE_length, hst]
                exact there_sec hcsb (Hba.out.ls _ (List.getElem_mem _)) Hba.out.hs.free
              have hsz : (Try.prog.info? 73).map (·.size) = some (secE tv).toArray.size := sizeS.trans (congrArg some (by rw [List.size_toArray, secE_length, hst]))
              have hone := one_sec tv
              have hOb : Only (· = sb) Wc (Wt) := hOt
              have hOb2 : Only (· = sb) Wc ((Wt).setCells sb (i * 128) (secE tv).toArray.toList) := hOb.trans (Only.setCells _ (A := (· = sb)) rfl _ _)
              refine wpAnyH_ready (rs := [17]) (by kernel_rfl) (by simp) ?_
              refine allVal (v := .pointer (some ⟨sb, i * 128, none⟩)) (w' := Wt) rfl (by kernel_rfl) ?_ hOb ?_ AllReadyH.nil
              · go_simp
              try simp only [Act.put, List.getElem_toArray, List.getElem_cons_succ, List.getElem_cons_zero, List.setIfInBounds_toArray, List.set_cons_zero, List.set_cons_succ]
              refine wpAnyH_ready (rs := [18]) (by kernel_rfl) (by simp) ?_
              refine allSkip (w' := Wt.setCells sb (i * 128) (secE tv).toArray.toList) rfl (by kernel_rfl) (execStoreMid 73 (.tmp 88) (.tmp 87) rfl sb (i * 128) (secE tv).toArray (by kernel_rfl) (by kernel_rfl) hth hsz hone) hOb2 ?_ AllReadyH.nil
              try simp only [Act.put, List.getElem_toArray, List.getElem_cons_succ, List.getElem_cons_zero, List.setIfInBounds_toArray, List.set_cons_zero, List.set_cons_succ]
              refine wpAnyH_done (by kernel_rfl) ?_ _
              have HX : Hid (DkIn (Wt.setCells sb (i * 128) (secE tv).toArray.toList) S db sb wb kS kW ws' ⟨(d.upTo (fate d keep tn at') i).safe.set i tv, (d.upTo (fate d keep tn at') i).writes, d.fuse, d.down, d.ops⟩) := by
                have e := Hba.out.store i (by rw [List.length_set]; exact HI.out) tv hst
                simp only [List.set_set] at e
                exact Lib.hid e
              have Hfate := Lib.hid (show fate d keep tn at' i = tv by rw [fate, hyse, if_neg Hzn.out, hs0e, ← Jc.out, hpk, if_pos ⟨htn, hk0⟩, hSK, hSK1, hTV])
              have HOX : Hid (Only S W3 (Wt.setCells sb (i * 128) (secE tv).toArray.toList)) := Lib.hid ((hOc.mono (fun _ _ h => h.elim)).trans (hOb2.mono (fun k _ e => by rw [e]; exact HSsb.out)))
              have Hl6 := Lib.hid ((hOb2.block L (by omega) (by have := HS3.out sb HSsb.out; omega)).trans HlC.out)
              have HD6 := Lib.hid ((hOb2.block W4.heap.size (by omega) (by have := HS3.out sb HSsb.out; omega)).trans HDC.out)
              have hbd2 := hbox12 _ hOb2
              clear hbd hbox12 hsafe12 hrow12 hrk hrk1 hfate1 hfate2 hOc hOb2 hOb hOd hOt H8 Hst ht1 hpk HlC HDC Hba hcsb hth hsz hone hBt hHeld hwk
              generalize Wt.setCells sb (i * 128) (secE tv).toArray.toList = Wx at *
              have hlw6 : i < ws'.length := by have e1 := HX.out.lw; rw [List.length_set, hlen1] at e1; omega
              have cwi : Wx.cell? ⟨wb, i, none⟩ = some ws'[i] := by have := HX.out.hw.cells i ws'[i] (List.getElem?_eq_getElem hlw6); rwa [Nat.zero_add] at this
              have fwi := HX.out.hw.free i
              have cdb : Wx.cell? ⟨db, 1, none⟩ = some (.slice (some ⟨wb, 0, none⟩) d.safe.length kW) := by
                have e1 := HX.out.hd.cells.c5.2.1
                rw [Nat.zero_add, List.length_set, hlen1] at e1
                exact e1
              have HDr := Lib.hid (HX.out.drop i hlw6)
              have hsw := HX.out.sw
              have hs6 := HOX.out.size
              have hWB : wb < Wx.heap.size := HX.out.hw.lt
              clear HX
              gi_wp2_with fail
              have hwS := HS3.out wb hsw
              have h9 : Only (· = wb) Wx (Wx.setCell ⟨wb, i, none⟩ (.slice none 0 0)) := Only.setCell (A := (· = wb)) Wx (p := ⟨wb, i, none⟩) rfl _
              have hl9 := (h9.block L (by omega) (by omega)).trans Hl6.out
              have hD9 := (h9.block W4.heap.size (by omega) (by omega)).trans HD6.out
              have hs9 := h9.size
              refine roundPost_normalR HRL.out hl9 ?_
              have h10 : Only (· = L) (Wx.setCell ⟨wb, i, none⟩ (.slice none 0 0)) ((Wx.setCell ⟨wb, i, none⟩ (.slice none 0 0)).putObj L (.loop (RL .ready none))) := Only.putObj (A := (· = L)) _ (b := L) rfl _
              have hl10 : ((Wx.setCell ⟨wb, i, none⟩ (.slice none 0 0)).putObj L (.loop (RL .ready none))).heap[L]? = some (.loop (RL .ready none)) := World.putObj_heap_same (by omega)
              have hD10 := (h10.block W4.heap.size (by omega) (by omega)).trans hD9
              have hs10 := h10.size
              have H10 := HDr.out.keep (S' := S) (fun k hk _ => h10.block k (by have := HS3.out k hk; omega) (by have := HS3.out k hk; omega)) (fun _ h => h)
              refine ⟨rfl, ⟨?_, ?_, ?_, ?_, fun k hk hn => ?_⟩, ⟨_, by rw [d.upTo_step, Hfate.out]; exact H10⟩, by rw [cnt, hyse, if_neg Hzn.out, Jc.out], hl10, hD10⟩
              · exact h10.os.trans (h9.os.trans (HOX.out.os.trans (Ho3.out.os.trans Hj1.out.os)))
              · exact h10.tape.trans (h9.tape.trans (HOX.out.tape.trans (Ho3.out.tape.trans Hj1.out.tape)))
              · exact h10.output.trans (h9.output.trans (HOX.out.output.trans (Ho3.out.output.trans Hj1.out.output)))
              · have := Hj1.out.size; omega
              · have hk1 := Hj1.out.size
                by_cases hkL2 : k = L
                · subst hkL2
                  exact hl10.trans (Hj4.out.symm.trans (Hj1.out.block k hk hn))
                · exact (h10.block k (by omega) hkL2).trans ((h9.block k (by omega) (fun e => hn (e ▸ hsw))).trans ((HOX.out.block k (by omega) hn).trans ((Ho3.out.block k (by omega) hkL2).trans (Hj1.out.block k hk hn))))
            · have hk0' : ¬ (0 : Int) < ((kc : Nat) : Int) := by omega
              have Hfate := Lib.hid (show fate d keep tn at' i = sk by rw [fate, hyse, if_neg Hzn.out, hs0e, ← Jc.out, hpk, if_neg (by omega), hSK])
              have HOX : Hid (Only S W3 (Wd)) := Lib.hid ((hOc.mono (fun _ _ h => h.elim)).trans (hOb2.mono (fun k _ e => by rw [e]; exact HSsb.out)))
              have Hl6 := Lib.hid ((hOb2.block L (by omega) (by have := HS3.out sb HSsb.out; omega)).trans HlC.out)
              have HD6 := Lib.hid ((hOb2.block W4.heap.size (by omega) (by have := HS3.out sb HSsb.out; omega)).trans HDC.out)
              have HX := Hst
              clear hbox12 hsafe12 hrow12 hrk hfate1 hfate2 hOc hOb2 H8 Hst hpk HlC HDC
              generalize Wd = Wx at *
              have hlw6 : i < ws'.length := by have e1 := HX.out.lw; rw [List.length_set, hlen1] at e1; omega
              have cwi : Wx.cell? ⟨wb, i, none⟩ = some ws'[i] := by have := HX.out.hw.cells i ws'[i] (List.getElem?_eq_getElem hlw6); rwa [Nat.zero_add] at this
              have fwi := HX.out.hw.free i
              have cdb : Wx.cell? ⟨db, 1, none⟩ = some (.slice (some ⟨wb, 0, none⟩) d.safe.length kW) := by
                have e1 := HX.out.hd.cells.c5.2.1
                rw [Nat.zero_add, List.length_set, hlen1] at e1
                exact e1
              have HDr := Lib.hid (HX.out.drop i hlw6)
              have hsw := HX.out.sw
              have hs6 := HOX.out.size
              have hWB : wb < Wx.heap.size := HX.out.hw.lt
              clear HX
              gi_wp2_with fail
              have hwS := HS3.out wb hsw
              have h9 : Only (· = wb) Wx (Wx.setCell ⟨wb, i, none⟩ (.slice none 0 0)) := Only.setCell (A := (· = wb)) Wx (p := ⟨wb, i, none⟩) rfl _
              have hl9 := (h9.block L (by omega) (by omega)).trans Hl6.out
              have hD9 := (h9.block W4.heap.size (by omega) (by omega)).trans HD6.out
              have hs9 := h9.size
              refine roundPost_normalR HRL.out hl9 ?_
              have h10 : Only (· = L) (Wx.setCell ⟨wb, i, none⟩ (.slice none 0 0)) ((Wx.setCell ⟨wb, i, none⟩ (.slice none 0 0)).putObj L (.loop (RL .ready none))) := Only.putObj (A := (· = L)) _ (b := L) rfl _
              have hl10 : ((Wx.setCell ⟨wb, i, none⟩ (.slice none 0 0)).putObj L (.loop (RL .ready none))).heap[L]? = some (.loop (RL .ready none)) := World.putObj_heap_same (by omega)
              have hD10 := (h10.block W4.heap.size (by omega) (by omega)).trans hD9
              have hs10 := h10.size
              have H10 := HDr.out.keep (S' := S) (fun k hk _ => h10.block k (by have := HS3.out k hk; omega) (by have := HS3.out k hk; omega)) (fun _ h => h)
              refine ⟨rfl, ⟨?_, ?_, ?_, ?_, fun k hk hn => ?_⟩, ⟨_, by rw [d.upTo_step, Hfate.out]; exact H10⟩, by rw [cnt, hyse, if_neg Hzn.out, Jc.out], hl10, hD10⟩
              · exact h10.os.trans (h9.os.trans (HOX.out.os.trans (Ho3.out.os.trans Hj1.out.os)))
              · exact h10.tape.trans (h9.tape.trans (HOX.out.tape.trans (Ho3.out.tape.trans Hj1.out.tape)))
              · exact h10.output.trans (h9.output.trans (HOX.out.output.trans (Ho3.out.output.trans Hj1.out.output)))
              · have := Hj1.out.size; omega
              · have hk1 := Hj1.out.size
                by_cases hkL2 : k = L
                · subst hkL2
                  exact hl10.trans (Hj4.out.symm.trans (Hj1.out.block k hk hn))
                · exact (h10.block k (by omega) hkL2).trans ((h9.block k (by omega) (fun e => hn (e ▸ hsw))).trans ((HOX.out.block k (by omega) hn).trans ((Ho3.out.block k (by omega) hkL2).trans (Hj1.out.block k hk hn))))
          · have Hfate := Lib.hid (show fate d keep tn at' i = sk by rw [fate, hyse, if_neg Hzn.out, hs0e, ← Jc.out, hpk, if_neg (by omega), hSK])
            have HOX : Hid (Only S W3 (Wd)) := Lib.hid ((hOc.mono (fun _ _ h => h.elim)).trans (hOb2.mono (fun k _ e => by rw [e]; exact HSsb.out)))
            have Hl6 := Lib.hid ((hOb2.block L (by omega) (by have := HS3.out sb HSsb.out; omega)).trans HlC.out)
            have HD6 := Lib.hid ((hOb2.block W4.heap.size (by omega) (by have := HS3.out sb HSsb.out; omega)).trans HDC.out)
            have HX := Hst
            clear hbox12 hsafe12 hrow12 hrk hfate1 hfate2 hOc hOb2 H8 Hst hpk HlC HDC
            generalize Wd = Wx at *
            have hlw6 : i < ws'.length := by have e1 := HX.out.lw; rw [List.length_set, hlen1] at e1; omega
            have cwi : Wx.cell? ⟨wb, i, none⟩ = some ws'[i] := by have := HX.out.hw.cells i ws'[i] (List.getElem?_eq_getElem hlw6); rwa [Nat.zero_add] at this
            have fwi := HX.out.hw.free i
            have cdb : Wx.cell? ⟨db, 1, none⟩ = some (.slice (some ⟨wb, 0, none⟩) d.safe.length kW) := by
              have e1 := HX.out.hd.cells.c5.2.1
              rw [Nat.zero_add, List.length_set, hlen1] at e1
              exact e1
            have HDr := Lib.hid (HX.out.drop i hlw6)
            have hsw := HX.out.sw
            have hs6 := HOX.out.size
            have hWB : wb < Wx.heap.size := HX.out.hw.lt
            clear HX
            gi_wp2_with fail
            have hwS := HS3.out wb hsw
            have h9 : Only (· = wb) Wx (Wx.setCell ⟨wb, i, none⟩ (.slice none 0 0)) := Only.setCell (A := (· = wb)) Wx (p := ⟨wb, i, none⟩) rfl _
            have hl9 := (h9.block L (by omega) (by omega)).trans Hl6.out
            have hD9 := (h9.block W4.heap.size (by omega) (by omega)).trans HD6.out
            have hs9 := h9.size
            refine roundPost_normalR HRL.out hl9 ?_
            have h10 : Only (· = L) (Wx.setCell ⟨wb, i, none⟩ (.slice none 0 0)) ((Wx.setCell ⟨wb, i, none⟩ (.slice none 0 0)).putObj L (.loop (RL .ready none))) := Only.putObj (A := (· = L)) _ (b := L) rfl _
            have hl10 : ((Wx.setCell ⟨wb, i, none⟩ (.slice none 0 0)).putObj L (.loop (RL .ready none))).heap[L]? = some (.loop (RL .ready none)) := World.putObj_heap_same (by omega)
            have hD10 := (h10.block W4.heap.size (by omega) (by omega)).trans hD9
            have hs10 := h10.size
            have H10 := HDr.out.keep (S' := S) (fun k hk _ => h10.block k (by have := HS3.out k hk; omega) (by have := HS3.out k hk; omega)) (fun _ h => h)
            refine ⟨rfl, ⟨?_, ?_, ?_, ?_, fun k hk hn => ?_⟩, ⟨_, by rw [d.upTo_step, Hfate.out]; exact H10⟩, by rw [cnt, hyse, if_neg Hzn.out, Jc.out], hl10, hD10⟩
            · exact h10.os.trans (h9.os.trans (HOX.out.os.trans (Ho3.out.os.trans Hj1.out.os)))
            · exact h10.tape.trans (h9.tape.trans (HOX.out.tape.trans (Ho3.out.tape.trans Hj1.out.tape)))
            · exact h10.output.trans (h9.output.trans (HOX.out.output.trans (Ho3.out.output.trans Hj1.out.output)))
            · have := Hj1.out.size; omega
            · have hk1 := Hj1.out.size
              by_cases hkL2 : k = L
              · subst hkL2
                exact hl10.trans (Hj4.out.symm.trans (Hj1.out.block k hk hn))
              · exact (h10.block k (by omega) hkL2).trans ((h9.block k (by omega) (fun e => hn (e ▸ hsw))).trans ((HOX.out.block k (by omega) hn).trans ((Ho3.out.block k (by omega) hkL2).trans (Hj1.out.block k hk hn))))
      · have hck' : ¬ (c : Int) < (keep.length : Int) := by omega
        have hpk : pickP ys.length keep c = 0 := by rw [pickP, if_neg hck]
        gi_wp2_with fail
        have HkL := Lib.hid (show 0 < (s0 :: ys).length by rw [List.length_cons]; omega)
        have hrk : ∀ w', Only (· = sb) Wc w' → CellsAt w' g8 (0 * 128) (secE ((s0 :: ys).getD 0 [])) := fun w' hO => rows_at (hrow12 w' hO) Hrl.out 0 HkL.out
        have hsk := rows_len Hrl.out 0 HkL.out
        have j0 : (0 : Int) ≤ ((0 : Nat) : Int) := by omega
        have j1 : ((0 : Nat) : Int) < (ys.length : Int) + 1 := by omega
        refine wpIn_region_held (S := fun w' => Only (· = sb) Wc w') (by kernel_rfl) (by rintro ⟨a, w, h⟩; exact h) (by kernel_rfl) (Only.drew Wc) (fun hHeld => ?_)
        generalize hSK : (s0 :: ys).getD 0 [] = sk at *
        refine wpAnyH_take (i := 0) (v := .pointer (some ⟨db, 0, none⟩)) rfl (by kernel_rfl) (by kernel_rfl) (by kernel_rfl) (fun _ _ _ h => h) (Or.inl ⟨by rfl, ?_⟩) hHeld ?_
        · intro w' hSw; have hcc := hbox12 w' hSw; go_simp
        try simp only [Act.put, List.getElem_toArray, List.getElem_cons_succ, List.getElem_cons_zero, List.setIfInBounds_toArray, List.set_cons_zero, List.set_cons_succ]
        refine wpAnyH_take (i := 1) (v := .pointer (some ⟨db, 0, none⟩)) rfl (by kernel_rfl) (by kernel_rfl) (by kernel_rfl) (fun _ _ _ h => h) (Or.inl ⟨by rfl, ?_⟩) hHeld ?_
        · intro w' hSw; go_simp
        try simp only [Act.put, List.getElem_toArray, List.getElem_cons_succ, List.getElem_cons_zero, List.setIfInBounds_toArray, List.set_cons_zero, List.set_cons_succ]
        refine wpAnyH_take (i := 2) (v := .pointer (some ⟨db, 0, none⟩)) rfl (by kernel_rfl) (by kernel_rfl) (by kernel_rfl) (fun _ _ _ h => h) (Or.inl ⟨by rfl, ?_⟩) hHeld ?_
        · intro w' hSw; go_simp
        try simp only [Act.put, List.getElem_toArray, List.getElem_cons_succ, List.getElem_cons_zero, List.setIfInBounds_toArray, List.set_cons_zero, List.set_cons_succ]
        refine wpAnyH_take (i := 3) (v := .slice (some ⟨sb, 0, none⟩) d.safe.length kS) rfl (by kernel_rfl) (by kernel_rfl) (by kernel_rfl) (fun _ _ _ h => h) (Or.inl ⟨by rfl, ?_⟩) hHeld ?_
        · intro w' hSw; have hcc := hsafe12 w' hSw; go_simp
        try simp only [Act.put, List.getElem_toArray, List.getElem_cons_succ, List.getElem_cons_zero, List.setIfInBounds_toArray, List.set_cons_zero, List.set_cons_succ]
        refine wpAnyH_take (i := 4) (v := .int .i64 i) rfl (by kernel_rfl) (by kernel_rfl) (by kernel_rfl) (fun _ _ _ h => h) (Or.inl ⟨by rfl, ?_⟩) hHeld ?_
        · intro w' hSw; go_simp
        try simp only [Act.put, List.getElem_toArray, List.getElem_cons_succ, List.getElem_cons_zero, List.setIfInBounds_toArray, List.set_cons_zero, List.set_cons_succ]
        refine wpAnyH_take (i := 5) (v := .slice (some ⟨g8, 0, none⟩) (ys.length + 1) cap8) rfl (by kernel_rfl) (by kernel_rfl) (by kernel_rfl) (fun _ _ _ h => h) (Or.inl ⟨by rfl, ?_⟩) hHeld ?_
        · intro w' hSw; go_simp
        try simp only [Act.put, List.getElem_toArray, List.getElem_cons_succ, List.getElem_cons_zero, List.setIfInBounds_toArray, List.set_cons_zero, List.set_cons_succ]
        refine wpAnyH_take (i := 6) (v := .int .i64 (0 : Nat)) rfl (by kernel_rfl) (by kernel_rfl) (by kernel_rfl) (fun _ _ _ h => h) (Or.inl ⟨by rfl, ?_⟩) hHeld ?_
        · intro w' hSw; go_simp
        try simp only [Act.put, List.getElem_toArray, List.getElem_cons_succ, List.getElem_cons_zero, List.setIfInBounds_toArray, List.set_cons_zero, List.set_cons_succ]
        refine wpAnyH_take (i := 7) (v := .pointer (some ⟨g8, 0 * 128, none⟩)) rfl (by kernel_rfl) (by kernel_rfl) (by kernel_rfl) (fun _ _ _ h => h) (Or.inl ⟨by rfl, ?_⟩) hHeld ?_
        · intro w' hSw; go_simp
        try simp only [Act.put, List.getElem_toArray, List.getElem_cons_succ, List.getElem_cons_zero, List.setIfInBounds_toArray, List.set_cons_zero, List.set_cons_succ]
        refine wpAnyH_take (i := 8) (v := .agg (secE sk).toArray) rfl (by kernel_rfl) (by kernel_rfl) (by kernel_rfl) (fun _ _ _ h => h) ?_ hHeld ?_
        · refine yieldsIf_load_mid ?_ 73 (.tmp 60) ?_ g8 (0 * 128) ?_ (secE sk) (.array 128 5) (hrk) Try.underlying73 ?_ ?_
          · rfl
          · rfl
          · kernel_rfl
          · rfl
          · exact sizeS.trans (congrArg some (by rw [secE_length, hsk]))
        try simp only [Act.put, List.getElem_toArray, List.getElem_cons_succ, List.getElem_cons_zero, List.setIfInBounds_toArray, List.set_cons_zero, List.set_cons_succ]
        have Hba := Lib.hid (H8.out.keep (w' := Wc.drew) (S' := S) (fun _ _ _ => rfl) (fun _ h => h))
        have hcsb := sec_at' Hba.out.hs Hba.out.ls i (by first | exact HI.out | (rw [List.length_set]; exact HI.out))
        have hth : (Wc.drew).there sb (i * 128) (secE sk).toArray.size := by
          rw [List.size_toArray, secE_length, hsk]
          exact there_sec hcsb (Hba.out.ls _ (List.getElem_mem _)) Hba.out.hs.free
        have hsz : (Try.prog.info? 73).map (·.size) = some (secE sk).toArray.size := sizeS.trans (congrArg some (by rw [List.size_toArray, secE_length, hsk]))
        have hone := one_sec sk
        have hOb : Only (· = sb) Wc (Wc.drew) := Only.drew Wc
        have hOb2 : Only (· = sb) Wc ((Wc.drew).setCells sb (i * 128) (secE sk).toArray.toList) := hOb.trans (Only.setCells _ (A := (· = sb)) rfl _ _)
        refine wpAnyH_ready (rs := [9]) (by kernel_rfl) (by simp) ?_
        refine allVal (v := .pointer (some ⟨sb, i * 128, none⟩)) (w' := Wc.drew) rfl (by kernel_rfl) ?_ hOb ?_ AllReadyH.nil
        · go_simp
        try simp only [Act.put, List.getElem_toArray, List.getElem_cons_succ, List.getElem_cons_zero, List.setIfInBounds_toArray, List.set_cons_zero, List.set_cons_succ]
        refine wpAnyH_ready (rs := [10]) (by kernel_rfl) (by simp) ?_
        refine allSkip (w' := Wc.drew.setCells sb (i * 128) (secE sk).toArray.toList) rfl (by kernel_rfl) (execStoreMid 73 (.tmp 62) (.tmp 61) rfl sb (i * 128) (secE sk).toArray (by kernel_rfl) (by kernel_rfl) hth hsz hone) hOb2 ?_ AllReadyH.nil
        try simp only [Act.put, List.getElem_toArray, List.getElem_cons_succ, List.getElem_cons_zero, List.setIfInBounds_toArray, List.set_cons_zero, List.set_cons_succ]
        refine wpAnyH_done (by kernel_rfl) ?_ _
        have Hst : Hid (DkIn (Wc.drew.setCells sb (i * 128) (secE sk).toArray.toList) S db sb wb kS kW ws' ⟨(d.upTo (fate d keep tn at') i).safe.set i sk, (d.upTo (fate d keep tn at') i).writes, d.fuse, d.down, d.ops⟩) := Lib.hid (Hba.out.store i HI.out sk hsk)
        have hszd : (Wc.drew.setCells sb (i * 128) (secE sk).toArray.toList).heap.size = Wc.heap.size := setCells_size _ _ _ _
        clear Hba hcsb hth hsz hone hOb hHeld
        generalize Wc.drew.setCells sb (i * 128) (secE sk).toArray.toList = Wd at *
        have hbd := hbox12 Wd hOb2
        have ht1 := hfate1 Wd hOb2
        by_cases htn : (c : Int) = tn
        · have Hfate := Lib.hid (show fate d keep tn at' i = sk by rw [fate, hyse, if_neg Hzn.out, hs0e, ← Jc.out, hpk, if_neg (by omega), hSK])
          have HOX : Hid (Only S W3 (Wd)) := Lib.hid ((hOc.mono (fun _ _ h => h.elim)).trans (hOb2.mono (fun k _ e => by rw [e]; exact HSsb.out)))
          have Hl6 := Lib.hid ((hOb2.block L (by omega) (by have := HS3.out sb HSsb.out; omega)).trans HlC.out)
          have HD6 := Lib.hid ((hOb2.block W4.heap.size (by omega) (by have := HS3.out sb HSsb.out; omega)).trans HDC.out)
          have HX := Hst
          clear hbox12 hsafe12 hrow12 hrk hfate1 hfate2 hOc hOb2 H8 Hst hpk HlC HDC
          generalize Wd = Wx at *
          have hlw6 : i < ws'.length := by have e1 := HX.out.lw; rw [List.length_set, hlen1] at e1; omega
          have cwi : Wx.cell? ⟨wb, i, none⟩ = some ws'[i] := by have := HX.out.hw.cells i ws'[i] (List.getElem?_eq_getElem hlw6); rwa [Nat.zero_add] at this
          have fwi := HX.out.hw.free i
          have cdb : Wx.cell? ⟨db, 1, none⟩ = some (.slice (some ⟨wb, 0, none⟩) d.safe.length kW) := by
            have e1 := HX.out.hd.cells.c5.2.1
            rw [Nat.zero_add, List.length_set, hlen1] at e1
            exact e1
          have HDr := Lib.hid (HX.out.drop i hlw6)
          have hsw := HX.out.sw
          have hs6 := HOX.out.size
          have hWB : wb < Wx.heap.size := HX.out.hw.lt
          clear HX
          gi_wp2_with fail
          have hwS := HS3.out wb hsw
          have h9 : Only (· = wb) Wx (Wx.setCell ⟨wb, i, none⟩ (.slice none 0 0)) := Only.setCell (A := (· = wb)) Wx (p := ⟨wb, i, none⟩) rfl _
          have hl9 := (h9.block L (by omega) (by omega)).trans Hl6.out
          have hD9 := (h9.block W4.heap.size (by omega) (by omega)).trans HD6.out
          have hs9 := h9.size
          refine roundPost_normalR HRL.out hl9 ?_
          have h10 : Only (· = L) (Wx.setCell ⟨wb, i, none⟩ (.slice none 0 0)) ((Wx.setCell ⟨wb, i, none⟩ (.slice none 0 0)).putObj L (.loop (RL .ready none))) := Only.putObj (A := (· = L)) _ (b := L) rfl _
          have hl10 : ((Wx.setCell ⟨wb, i, none⟩ (.slice none 0 0)).putObj L (.loop (RL .ready none))).heap[L]? = some (.loop (RL .ready none)) := World.putObj_heap_same (by omega)
          have hD10 := (h10.block W4.heap.size (by omega) (by omega)).trans hD9
          have hs10 := h10.size
          have H10 := HDr.out.keep (S' := S) (fun k hk _ => h10.block k (by have := HS3.out k hk; omega) (by have := HS3.out k hk; omega)) (fun _ h => h)
          refine ⟨rfl, ⟨?_, ?_, ?_, ?_, fun k hk hn => ?_⟩, ⟨_, by rw [d.upTo_step, Hfate.out]; exact H10⟩, by rw [cnt, hyse, if_neg Hzn.out, Jc.out], hl10, hD10⟩
          · exact h10.os.trans (h9.os.trans (HOX.out.os.trans (Ho3.out.os.trans Hj1.out.os)))
          · exact h10.tape.trans (h9.tape.trans (HOX.out.tape.trans (Ho3.out.tape.trans Hj1.out.tape)))
          · exact h10.output.trans (h9.output.trans (HOX.out.output.trans (Ho3.out.output.trans Hj1.out.output)))
          · have := Hj1.out.size; omega
          · have hk1 := Hj1.out.size
            by_cases hkL2 : k = L
            · subst hkL2
              exact hl10.trans (Hj4.out.symm.trans (Hj1.out.block k hk hn))
            · exact (h10.block k (by omega) hkL2).trans ((h9.block k (by omega) (fun e => hn (e ▸ hsw))).trans ((HOX.out.block k (by omega) hn).trans ((Ho3.out.block k (by omega) hkL2).trans (Hj1.out.block k hk hn))))
        · have Hfate := Lib.hid (show fate d keep tn at' i = sk by rw [fate, hyse, if_neg Hzn.out, hs0e, ← Jc.out, hpk, if_neg (by omega), hSK])
          have HOX : Hid (Only S W3 (Wd)) := Lib.hid ((hOc.mono (fun _ _ h => h.elim)).trans (hOb2.mono (fun k _ e => by rw [e]; exact HSsb.out)))
          have Hl6 := Lib.hid ((hOb2.block L (by omega) (by have := HS3.out sb HSsb.out; omega)).trans HlC.out)
          have HD6 := Lib.hid ((hOb2.block W4.heap.size (by omega) (by have := HS3.out sb HSsb.out; omega)).trans HDC.out)
          have HX := Hst
          clear hbox12 hsafe12 hrow12 hrk hfate1 hfate2 hOc hOb2 H8 Hst hpk HlC HDC
          generalize Wd = Wx at *
          have hlw6 : i < ws'.length := by have e1 := HX.out.lw; rw [List.length_set, hlen1] at e1; omega
          have cwi : Wx.cell? ⟨wb, i, none⟩ = some ws'[i] := by have := HX.out.hw.cells i ws'[i] (List.getElem?_eq_getElem hlw6); rwa [Nat.zero_add] at this
          have fwi := HX.out.hw.free i
          have cdb : Wx.cell? ⟨db, 1, none⟩ = some (.slice (some ⟨wb, 0, none⟩) d.safe.length kW) := by
            have e1 := HX.out.hd.cells.c5.2.1
            rw [Nat.zero_add, List.length_set, hlen1] at e1
            exact e1
          have HDr := Lib.hid (HX.out.drop i hlw6)
          have hsw := HX.out.sw
          have hs6 := HOX.out.size
          have hWB : wb < Wx.heap.size := HX.out.hw.lt
          clear HX
          gi_wp2_with fail
          have hwS := HS3.out wb hsw
          have h9 : Only (· = wb) Wx (Wx.setCell ⟨wb, i, none⟩ (.slice none 0 0)) := Only.setCell (A := (· = wb)) Wx (p := ⟨wb, i, none⟩) rfl _
          have hl9 := (h9.block L (by omega) (by omega)).trans Hl6.out
          have hD9 := (h9.block W4.heap.size (by omega) (by omega)).trans HD6.out
          have hs9 := h9.size
          refine roundPost_normalR HRL.out hl9 ?_
          have h10 : Only (· = L) (Wx.setCell ⟨wb, i, none⟩ (.slice none 0 0)) ((Wx.setCell ⟨wb, i, none⟩ (.slice none 0 0)).putObj L (.loop (RL .ready none))) := Only.putObj (A := (· = L)) _ (b := L) rfl _
          have hl10 : ((Wx.setCell ⟨wb, i, none⟩ (.slice none 0 0)).putObj L (.loop (RL .ready none))).heap[L]? = some (.loop (RL .ready none)) := World.putObj_heap_same (by omega)
          have hD10 := (h10.block W4.heap.size (by omega) (by omega)).trans hD9
          have hs10 := h10.size
          have H10 := HDr.out.keep (S' := S) (fun k hk _ => h10.block k (by have := HS3.out k hk; omega) (by have := HS3.out k hk; omega)) (fun _ h => h)
          refine ⟨rfl, ⟨?_, ?_, ?_, ?_, fun k hk hn => ?_⟩, ⟨_, by rw [d.upTo_step, Hfate.out]; exact H10⟩, by rw [cnt, hyse, if_neg Hzn.out, Jc.out], hl10, hD10⟩
          · exact h10.os.trans (h9.os.trans (HOX.out.os.trans (Ho3.out.os.trans Hj1.out.os)))
          · exact h10.tape.trans (h9.tape.trans (HOX.out.tape.trans (Ho3.out.tape.trans Hj1.out.tape)))
          · exact h10.output.trans (h9.output.trans (HOX.out.output.trans (Ho3.out.output.trans Hj1.out.output)))
          · have := Hj1.out.size; omega
          · have hk1 := Hj1.out.size
            by_cases hkL2 : k = L
            · subst hkL2
              exact hl10.trans (Hj4.out.symm.trans (Hj1.out.block k hk hn))
            · exact (h10.block k (by omega) hkL2).trans ((h9.block k (by omega) (fun e => hn (e ▸ hsw))).trans ((HOX.out.block k (by omega) hn).trans ((Ho3.out.block k (by omega) hkL2).trans (Hj1.out.block k hk hn))))

    case hend =>
      rintro e W6 ⟨⟨v, rfl⟩, c, -, ⟨j1, ⟨ws', j2⟩, -, j4, j5⟩⟩
      refine ⟨⟨v, rfl⟩, .ready, none, by simp, j4, ?_⟩
      show Exit.inBlock 1 _ Exit.normal _ (W6.putObj (W4.heap.size + 1) (.loop (RL .exhausted none)))
      have hs6 := j1.size
      have hsS : ∀ k, S k → k < w.heap.size := fun k hk => HS.out k hk
      have h7 : Only (· = W4.heap.size + 1) W6 (W6.putObj (W4.heap.size + 1) (.loop (RL .exhausted none))) := Only.putObj (A := (· = W4.heap.size + 1)) _ (b := W4.heap.size + 1) rfl _
      have hs7 : (W6.putObj (W4.heap.size + 1) (.loop (RL .exhausted none))).heap.size = W6.heap.size := World.putObj_size
      generalize W6.putObj (W4.heap.size + 1) (.loop (RL .exhausted none)) = W7 at *
      have H7 := j2.keep (S' := S) (fun k hk _ => h7.block k (by have := hsS k hk; omega) (by have := hsS k hk; omega)) (fun _ h => h)
      have hD7 : W7.heap[W4.heap.size]? = some (.deferred (some [])) := (h7.block _ (by omega) (by omega)).trans j5
      have hkb7 : Blk W7 w.heap.size [.pointer (some ⟨db, 0, none⟩)] 25 := h7.blk (j1.blk hkb5 (fun e => by have := hsS _ e; omega)) (by omega)
      have hndb : w.heap.size ≠ db := fun e => by have := hsS db H7.sd; omega
      have hO7 := Only.transNew ((HO3.out.trans (Below.only hB5)).trans j1) h7 (fun k e => by omega)
      have hbox : ∀ w', Only (· = db) W7 w' → w'.cell? ⟨w.heap.size, 0, none⟩ = some (.pointer (some ⟨db, 0, none⟩)) := fun w' hO => (hO.blk hkb7 hndb).cells.c1
      have h8 : Only (· = db) W7 (W7.drew.setCell ⟨db, 3, none⟩ (.bool false)) := (Only.drew W7).trans (Only.setCell (A := (· = db)) _ (p := ⟨db, 3, none⟩) rfl _)
      have h9 : Only (· = db) W7 ((W7.drew.setCell ⟨db, 3, none⟩ (.bool false)).setCell ⟨db, 2, none⟩ (.int .i64 (-1))) := h8.trans (Only.setCell (A := (· = db)) _ (p := ⟨db, 2, none⟩) rfl _)
      have hb7 : Hd W7.drew db _ _ _ _ _ := H7.hd
      have hb8 := hb7.set 3 (.bool false)
      have hb9 := hb8.set 2 (.int .i64 (-1))
      have c73 : W7.cell? ⟨db, 3, none⟩ = some (.bool d.down) := by
        have := H7.hd.cells.c5.2.2.2.1
        rwa [Nat.zero_add] at this
      have f73 := H7.hd.free 3
      have c82 : W7.cell? ⟨db, 2, none⟩ = some (.int .i64 d.fuse) := by
        have := H7.hd.cells.c5.2.2.1
        rwa [Nat.zero_add] at this
      have f82 := H7.hd.free 2
      have H9 := H7.head (-1) false d.ops (w' := (W7.drew.setCell ⟨db, 3, none⟩ (.bool false)).setCell ⟨db, 2, none⟩ (.int .i64 (-1))) (fun k hk => (Below.heap_setCell _ _ _ _ hk).trans (Below.heap_setCell _ _ _ _ hk)) hb9
      have hD9 := (h9.block W4.heap.size (by omega) (by have := hsS db H7.sd; omega)).trans hD7
      have hs9 := h9.size
      have h10 : Only (· = W4.heap.size) ((W7.drew.setCell ⟨db, 3, none⟩ (.bool false)).setCell ⟨db, 2, none⟩ (.int .i64 (-1))) (((W7.drew.setCell ⟨db, 3, none⟩ (.bool false)).setCell ⟨db, 2, none⟩ (.int .i64 (-1))).putObj W4.heap.size (.deferred none)) := Only.putObj (A := (· = W4.heap.size)) _ (b := W4.heap.size) rfl _
      have H10 := H9.keep (S' := S) (fun k hk _ => h10.block k (by have := hsS k hk; omega) (by have := hsS k hk; omega)) (fun _ h => h)
      have hO := Only.transNew (hO7.trans (h9.mono (fun k _ e => by rw [e]; exact H7.sd))) h10 (fun k e => by omega)
      have hr := HR.out _ hO ⟨_, _, _, _, _, H10⟩
      have HD9 := Lib.hid hD9
      have Hr := Lib.hid hr
      clear hs3 hlD hlL hs5 hK5 hkb5 hfb5 hnn hlr cdb j1 j2 j4 j5 hs6 hsS h7 hs7 H7 hD7 hkb7 hO7 hb7 hb8 hb9 H9 hD9 h10 H10 hO hr HS HO3 H3 H5 hk3 hkb3 hfb3 hB5 cdn hs9
      go_wp2_with fail
      refine wp_calm ?_
      refine wp_region_held_drew (S := fun w' => Only (· = db) W7 w') (by kernel_rfl) (Only.drew W7) (fun hHeld => ?_)
      refine wpAnyH_take (i := 0) (v := .pointer (some ⟨db, 0, none⟩)) rfl (by kernel_rfl) (by kernel_rfl) (by kernel_rfl) (fun _ _ _ h => h) (Or.inl ⟨by rfl, ?_⟩) hHeld ?_
      · intro w' hSw; have hcc := hbox w' hSw; clear c73 c82; go_simp
      try simp only [Act.put, List.getElem_toArray, List.getElem_cons_succ, List.getElem_cons_zero, List.setIfInBounds_toArray, List.set_cons_zero, List.set_cons_succ]
      refine wpAnyH_take (i := 1) (v := .pointer (some ⟨db, 0, none⟩)) rfl (by kernel_rfl) (by kernel_rfl) (by kernel_rfl) (fun _ _ _ h => h) (Or.inl ⟨by rfl, ?_⟩) hHeld ?_
      · intro w' hSw; have hcc := hbox w' hSw; clear c73 c82; go_simp
      try simp only [Act.put, List.getElem_toArray, List.getElem_cons_succ, List.getElem_cons_zero, List.setIfInBounds_toArray, List.set_cons_zero, List.set_cons_succ]
      refine wpAnyH_take (i := 2) (v := .pointer (some ⟨db, 0, none⟩)) rfl (by kernel_rfl) (by kernel_rfl) (by kernel_rfl) (fun _ _ _ h => h) (Or.inl ⟨by rfl, ?_⟩) hHeld ?_
      · intro w' hSw; go_simp
      try simp only [Act.put, List.getElem_toArray, List.getElem_cons_succ, List.getElem_cons_zero, List.setIfInBounds_toArray, List.set_cons_zero, List.set_cons_succ]
      refine wpAnyH_take (i := 3) (v := .pointer (some ⟨db, 3, none⟩)) rfl (by kernel_rfl) (by kernel_rfl) (by kernel_rfl) (fun _ _ _ h => h) (Or.inl ⟨by rfl, ?_⟩) hHeld ?_
      · intro w' hSw; go_simp
      try simp only [Act.put, List.getElem_toArray, List.getElem_cons_succ, List.getElem_cons_zero, List.setIfInBounds_toArray, List.set_cons_zero, List.set_cons_succ]
      refine wpAnyH_ready (rs := [4]) (by kernel_rfl) (by simp) ?_
      refine allSkip (w' := W7.drew.setCell ⟨db, 3, none⟩ (.bool false)) rfl (by kernel_rfl) ?_ h8 ?_ AllReadyH.nil
      · go_simp
      try simp only [Act.put, List.getElem_toArray, List.getElem_cons_succ, List.getElem_cons_zero, List.setIfInBounds_toArray, List.set_cons_zero, List.set_cons_succ]
      have hHeld := h8
      refine wpAnyH_take (i := 5) (v := .pointer (some ⟨db, 0, none⟩)) rfl (by kernel_rfl) (by kernel_rfl) (by kernel_rfl) (fun _ _ _ h => h) (Or.inl ⟨by rfl, ?_⟩) hHeld ?_
      · intro w' hSw; go_simp
      try simp only [Act.put, List.getElem_toArray, List.getElem_cons_succ, List.getElem_cons_zero, List.setIfInBounds_toArray, List.set_cons_zero, List.set_cons_succ]
      refine wpAnyH_take (i := 6) (v := .pointer (some ⟨db, 2, none⟩)) rfl (by kernel_rfl) (by kernel_rfl) (by kernel_rfl) (fun _ _ _ h => h) (Or.inl ⟨by rfl, ?_⟩) hHeld ?_
      · intro w' hSw; go_simp
      try simp only [Act.put, List.getElem_toArray, List.getElem_cons_succ, List.getElem_cons_zero, List.setIfInBounds_toArray, List.set_cons_zero, List.set_cons_succ]
      refine wpAnyH_ready (rs := [7]) (by kernel_rfl) (by simp) ?_
      refine allSkip (w' := (W7.drew.setCell ⟨db, 3, none⟩ (.bool false)).setCell ⟨db, 2, none⟩ (.int .i64 (-1))) rfl (by kernel_rfl) ?_ h9 ?_ AllReadyH.nil
      · go_simp
      try simp only [Act.put, List.getElem_toArray, List.getElem_cons_succ, List.getElem_cons_zero, List.setIfInBounds_toArray, List.set_cons_zero, List.set_cons_succ]
      refine wpAnyH_done (by kernel_rfl) (calm_normal ?_) _
      clear hbox c73 f73 c82 f82 h8 hHeld
      generalize (W7.drew.setCell ⟨db, 3, none⟩ (.bool false)).setCell ⟨db, 2, none⟩ (.int .i64 (-1)) = W9 at *
      go_wp2_with fail
      refine ⟨by simp, .inl ⟨_, _, rfl, run_takeDeferred HD9.out, ?_⟩⟩
      exact ⟨_, results_tmp (t := 4) rfl _ _ _, fin Hr.out rfl⟩
  · have hd' : d.down = false := by simpa using hd
    have hr := HR0.out hd' W1 HO1.out ⟨_, _, _, _, _, H.out⟩
    rw [hd'] at cdn
    clear HR0 HR4
    go_wp2_with fail
    exact ⟨_, results_tmp (t := 4) rfl _ _ _, fin hr rfl⟩
end Go.Proofs.Ytfmpafheodpfoaa
