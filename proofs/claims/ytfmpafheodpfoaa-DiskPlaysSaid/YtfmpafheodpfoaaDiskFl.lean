/- disk.Flush: the walk. (Printed by diskfl.py.) -/
import Derived.Test.YtfmpafheodpfoaaDiskFp
namespace Go.Proofs.Ytfmpafheodpfoaa
open Go.RowKit Go.Shelf
set_option linter.unusedVariables false
set_option linter.unusedSimpArgs false
attribute [local go_sem] Oper.semAt_some

theorem allCall {P : Program} {ops : Array Oper} {Q : Exit → Act → World → Prop} {md : Region.Mode} {S : World → Prop} {fuel : Nat} {listed : Array Bool} {a : Act} {w : World} {i : Nat} {o : Oper} {rs : List Nat} {f : FuncId} {args : Array Value}
    (ho : ops[i]? = some o) (hw : Region.wanted o (yielded ops a.tmps) = true) (hr : (execOp a.eval o).run P w = .ok (.enter f args) w)
    (hc : Calls P f args w (fun e w' => ∃ v, e = .returned v ∧ S w' ∧ wpAnyH P md ops Q S fuel (listed.setIfInBounds i true) (a.put o.dst v) w')) (hs : AllReadyH P md ops Q S fuel listed a w rs) : AllReadyH P md ops Q S fuel listed a w (i :: rs) :=
  AllReadyH.cons ho (fun _ hK => wantedIte hw (by
    unfold Oper.wp
    rw [hr]
    refine hc.mono ?_
    rintro e w' ⟨v, rfl, hS, h⟩
    exact hK.out _ _ hS (fun _ => h))) hs
theorem Only.transNew {S A : Nat → Prop} {a b c : World} (h : Only S a b) (k : Only A b c) (hA : ∀ i, A i → a.heap.size ≤ i) : Only S a c :=
  ⟨k.os.trans h.os, k.tape.trans h.tape, k.output.trans h.output, Nat.le_trans h.size k.size, fun i hi hS => (k.block i (Nat.lt_of_lt_of_le hi h.size) (fun e => by have := hA i e; omega)).trans (h.block i hi hS)⟩
theorem execStoreMid {P : Program} {o : Oper} {ρ : Operand → Value} {w : World} (ty : TypeId) (x y : Operand) (ho : o.op = .store ty x y) (b of : Nat) (cells : Array Value) (hx : ρ x = .pointer (some ⟨b, of, none⟩)) (hy : ρ y = .agg cells)
    (ht : w.there b of cells.size) (hi : (P.info? ty).map (·.size) = some cells.size) (h1 : cells.all (·.oneCell') = true) : (execOp ρ o).run P w = .ok .skip (w.setCells b of cells.toList) := by
  unfold execOp
  simp only [ho, hx, hy, Instr.storeAt, Instr.sureAddr, Sem.run_bind, Sem.run_pure, Result.andThen_ok, run_storeVar_mid w b of ty cells ht hi h1]

set_option maxRecDepth 100000 in
set_option maxHeartbeats 8000000 in
theorem Flush_any (S : Nat → Prop) (db : Nat) (d : Dk) (w : World) (h : DkAt w S db d) (hS : ∀ k, S k → k < w.heap.size)
    (hf : d.fuse ≤ 9223372036854775807 ∧ -9223372036854775808 ≤ d.fuse) (hops : 0 ≤ d.ops ∧ d.ops < 1000000) (R : Ending → World → Prop)
    (hRd : d.down = true → ∀ w', Only S w w' → DkAt w' S db d → R (.returned (.int .i64 210)) w')
    (hR3 : d.down = false → d.fuse = 0 → ∀ w', Only S w w' → DkAt w' S db ⟨d.safe, d.writes, d.fuse, true, d.ops⟩ → R (.returned (.int .i64 210)) w')
    (hR4 : d.down = false → d.fuse ≠ 0 → ∀ w', Only S w w' → DkAt w' S db ((⟨d.safe, d.writes, fuse1 d.fuse, d.down, d.ops + 1⟩ : Dk).upTo d.last d.safe.length) → R (.returned (.int .i64 0)) w') :
    Calls Try.prog 11 #[.pointer (some ⟨db, 0, none⟩)] w R := by
  obtain ⟨sb, wb, kS, kW, ws, h⟩ := h
  have HRd := Lib.hid hRd
  have HR3 := Lib.hid hR3
  have HR4 := Lib.hid hR4
  have HS := Lib.hid hS
  have hpos := h.pos
  have hB1 : Below w.heap.size w (w.alloc (.cells #[.pointer (some ⟨db, 0, none⟩)] 25)) := (Below.refl _ _).alloc (Nat.le_refl _) _
  have hk1 : Blk (w.alloc (.cells #[.pointer (some ⟨db, 0, none⟩)] 25)) w.heap.size [.pointer (some ⟨db, 0, none⟩)] 25 := Blk.new _ _ _ rfl
  have hs1 : (w.alloc (.cells #[.pointer (some ⟨db, 0, none⟩)] 25)).heap.size = w.heap.size + 1 := by simp
  have H := Lib.hid (h.keep (S' := S) (fun k hk _ => hB1.block k (hS k hk)) (fun _ h => h))
  have HO1 := Lib.hid (show Only S w (w.alloc (.cells #[.pointer (some ⟨db, 0, none⟩)] 25)) from Below.only hB1)
  clear hRd hR3 hR4 h hS
  refine (callsIn_wide (n := 3)).1 (callsIn_of_wp_marks Try.func11 rfl trivial ?_ rfl)
  refine wpIn_wide.2 ?_
  simp only [Try.ntmps11, List.size_toArray, List.length_cons, Nat.reduceAdd, Nat.reduceSub, Array.replicate_succ, Array.replicate_zero, List.push_toArray, List.append_toArray, List.nil_append, List.cons_append, List.length_nil]
  have c0 := hk1.cells.c1
  have Hk1 := Lib.hid hk1
  clear hk1
  generalize hW1 : w.alloc (.cells #[.pointer (some ⟨db, 0, none⟩)] 25) = W1 at *
  go_wp2_with fail
  clear hW1
  refine up_any db _ _ _ _ _ _ _ 0 W1 H.out.hd hpos _ ?_
  have hup : upE d.safe.length d.down 0 = if d.down then 210 else 0 := by
    simp only [upE]
    split
    · rfl
    · rw [if_neg (by omega)]
  by_cases hd : d.down = true
  · rw [hup, if_pos hd]
    have hr := HRd.out hd W1 HO1.out ⟨_, _, _, _, _, H.out⟩
    clear HR3 HR4 HRd
    go_wp2_with fail
    exact ⟨_, results_tmp (t := 2) rfl _ _ _, fin hr rfl⟩
  · have hd' : d.down = false := by simpa using hd
    rw [hup, if_neg hd]
    have hr3 := HR3.out hd'
    have hr4 := HR4.out hd'
    have Hr4 := Lib.hid hr4
    have Hr3 := Lib.hid hr3
    clear hr3 hr4 HR3 HR4 HRd hup
    go_wp2_with fail
    refine counts_any db _ _ _ _ _ W1 H.out.hd hf hops _ (fun hf0 w1 hd1 hw1 => ?_) (fun hf1 w1 hd1 hb1 hk1 hs2 => ?_)
    · have hr := Hr3.out hf0 w1 (HO1.out.trans (by rw [hw1]; exact Only.setCell W1 (p := ⟨db, 3, none⟩) H.out.sd _)) ⟨sb, wb, kS, kW, ws, H.out.head _ _ _ (fun k hk => by rw [hw1]; exact Below.heap_setCell _ _ _ _ hk) hd1⟩
      clear hw1 hd1
      go_wp2_with fail
      exact ⟨_, results_tmp (t := 2) rfl _ _ _, fin hr rfl⟩
    · have H1 := Lib.hid (H.out.head _ _ _ hk1 hd1)
      have hndb : w.heap.size ≠ db := fun e => by have := HS.out db H.out.sd; omega
      have HO2 := Lib.hid (show Only S w w1 from HO1.out.trans ⟨(hb1 0 (Nat.zero_le _)).os, (hb1 0 (Nat.zero_le _)).tape, (hb1 0 (Nat.zero_le _)).output, Nat.le_of_eq hs2.symm, fun k _ hk => hk1 k (fun e => hk (e ▸ H.out.sd))⟩)
      have hkb1 : Blk w1 w.heap.size [.pointer (some ⟨db, 0, none⟩)] 25 := (hk1 _ hndb).trans Hk1.out
      have c1 := hkb1.cells.c1
      have hs2' : w1.heap.size = w.heap.size + 1 := by omega
      have Hkb1 := Lib.hid hkb1
      have hr := Hr4.out hf1
      have HR := Lib.hid hr
      clear hr Hr4 Hr3 hk1 hb1 hd1 H Hk1 hkb1 c0 hB1 HO1 hs1 hs2
      generalize hdd : (⟨d.safe, d.writes, fuse1 d.fuse, d.down, d.ops + 1⟩ : Dk) = d1 at *
      have hlast : d.last = d1.last := by rw [← hdd]; rfl
      have hsl : d.safe.length = d1.safe.length := by rw [← hdd]
      rw [hlast, hsl] at HR
      go_wp2_with fail
      refine dirty_any db w1 _ ?_
      go_wp2_with fail
      have hB3 : Below w1.heap.size w1 (w1.alloc (.cells #[.pointer (some ⟨db, 0, none⟩)] 25)) := (Below.refl _ _).alloc (Nat.le_refl _) _
      have hk3 : Blk (w1.alloc (.cells #[.pointer (some ⟨db, 0, none⟩)] 25)) w1.heap.size [.pointer (some ⟨db, 0, none⟩)] 25 := Blk.new _ _ _ rfl
      have hs3 : (w1.alloc (.cells #[.pointer (some ⟨db, 0, none⟩)] 25)).heap.size = w.heap.size + 2 := by simp; omega
      rw [hs2'] at hk3
      try simp only [hs2']
      have hkb3 := Hkb1.out.below hB3 (by omega)
      have H3 := Lib.hid (H1.out.keep (S' := S) (fun k hk _ => hB3.block k (by have := HS.out k hk; omega)) (fun _ h => h))
      have HO3 := Lib.hid (HO2.out.trans (Below.only hB3))
      clear hB3 Hkb1 H1 HO2 c1
      generalize w1.alloc (.cells #[.pointer (some ⟨db, 0, none⟩)] 25) = W4 at *
      refine wp_rangeFuncR 2 (gf := 45) rfl (enters_of Try.func45 (by kernel_rfl) rfl) (fun fn RL hRL => ?_)
      have HRL := Lib.hid hRL
      clear hRL
      have hB5 : Below W4.heap.size W4 ((W4.alloc (.deferred (some []))).alloc (.loop (RL .ready none))) := ((Below.refl _ _).alloc (Nat.le_refl _) _).alloc (by simp) _
      have hlD : ((W4.alloc (.deferred (some []))).alloc (.loop (RL .ready none))).heap[W4.heap.size]? = some (.deferred (some [])) := (Below.heap_alloc _ _ _ (by simp)).trans (World.alloc_heap_new W4 _)
      have hlL : ((W4.alloc (.deferred (some []))).alloc (.loop (RL .ready none))).heap[W4.heap.size + 1]? = some (.loop (RL .ready none)) := by
        have := World.alloc_heap_new (W4.alloc (.deferred (some []))) (.loop (RL .ready none))
        rwa [World.size_alloc] at this
      have hs5 : ((W4.alloc (.deferred (some []))).alloc (.loop (RL .ready none))).heap.size = W4.heap.size + 2 := by simp
      generalize (W4.alloc (.deferred (some []))).alloc (.loop (RL .ready none)) = W5 at *
      have hK5 := hk3.below hB5 (by omega)
      have hkb5 := hkb3.below hB5 (by omega)
      have H5 := Lib.hid (H3.out.keep (S' := S) (fun k hk _ => hB5.block k (by have := HS.out k hk; omega)) (fun _ h => h))
      have hnn : d1.safe.length ≤ 65536 := H5.out.cap
      have hlr : d1.writes.length = d1.safe.length := H5.out.lr
      have cdb : W5.cell? ⟨db, 1, none⟩ = some (.slice (some ⟨wb, 0, none⟩) d1.safe.length kW) := by
        have := H5.out.hd.cells.c5.2.1
        rwa [Nat.zero_add] at this
      refine (dirty1_any (w.heap.size + 1) db wb d1.safe.length 1 (W4.heap.size + 1) (fun i => (d1.writes.getD i []).length)
        (fun i c W => Only S W5 W ∧ (∃ ws, DkIn W S db sb wb kS kW ws (d1.upTo d1.last i)) ∧ W.heap[W4.heap.size + 1]? = some (.loop (RL .ready none)) ∧ W.heap[W4.heap.size]? = some (.deferred (some [])))
        ?hcell ?hskip ?hY W5 ?hJ0 hK5.cells.c1 cdb hnn).mono ?hend
      case hJ0 => exact ⟨Only.refl _ _, ⟨ws, by rw [d1.upTo_zero d1.last hlr]; exact H5.out⟩, hlL, hlD⟩
      case hcell =>
        rintro i c W ⟨j1, ⟨ws', j2⟩, j3, j4⟩ hi
        obtain ⟨ao, cap, hc⟩ := j2.headW i (by rw [d1.upTo_len]; exact hi)
        refine ⟨ao, cap, ?_⟩
        rcases d1.upTo_w d1.last i with e | e
        · rwa [e] at hc
        · omega
      case hskip =>
        rintro i c W ⟨j1, j2, j3, j4⟩ hi hz
        have hz' : d1.writes.getD i [] = [] := List.eq_nil_of_length_eq_zero hz
        rw [d1.upTo_skip d1.last i hz' (by rw [Dk.last, hz']; rfl)]
        exact ⟨j1, j2, j3, j4⟩
      case hY =>
        rintro i c W ⟨j1, ⟨ws', j2⟩, j4, j5⟩ hi hci hz
        have hsW := j1.size
        have hs3' : w.heap.size + 2 ≤ W4.heap.size := by omega
        have hsS : ∀ k, S k → k < w.heap.size := fun k hk => HS.out k hk
        have hlen1 : (d1.upTo d1.last i).safe.length = d1.safe.length := d1.upTo_len _ _
        have HS3 := Lib.hid hsS
        have hLW : W4.heap.size + 1 < W.heap.size := by omega
        have hkL : w.heap.size < W4.heap.size := by omega
        refine yieldAt_recR HRL.out j4 rfl ?_
        have Hj1 := Lib.hid j1
        have Hj2 := Lib.hid j2
        have Hj4 := Lib.hid j4
        have Hj5 := Lib.hid j5
        have hkbW : W.heap[w.heap.size]? = W5.heap[w.heap.size]? := j1.block _ (by omega) (fun e => by have := hsS _ e; omega)
        have hboxW : Blk W w.heap.size [.pointer (some ⟨db, 0, none⟩)] 25 := hkbW.trans hkb5
        have HboxW := Lib.hid hboxW
        clear j1 j2 j4 j5 hlD hlL hB5 hs5 hK5 hkb5 cdb hkbW hboxW hk3 hkb3 hs3 hsS
        gi_wp2
        generalize hL : W4.heap.size + 1 = L at *
        refine ⟨Hj4.out, ?_⟩
        have ho3 : Only (· = L) W (W.putObj L (.loop (RL .busy none))) := Only.putObj (A := (· = L)) W (b := L) rfl _
        have hl3 : (W.putObj L (.loop (RL .busy none))).heap[L]? = some (.loop (RL .busy none)) := World.putObj_heap_same (by omega)
        have hs3 : (W.putObj L (.loop (RL .busy none))).heap.size = W.heap.size := World.putObj_size
        generalize W.putObj L (.loop (RL .busy none)) = W3 at *
        have hD3 : W3.heap[W4.heap.size]? = some (.deferred (some [])) := (ho3.block _ (by omega) (by omega)).trans Hj5.out
        have H3' := Hj2.out.keep (S' := S) (fun k hk _ => ho3.block k (by have := HS3.out k hk; omega) (by have := HS3.out k hk; omega)) (fun _ h => h)
        have hbox3 := ho3.blk HboxW.out (by omega)
        have hsbk : w.heap.size ≠ sb := fun e => by have := HS3.out sb H3'.ss; omega
        have hwbk : w.heap.size ≠ wb := fun e => by have := HS3.out wb H3'.sw; omega
        have hbox : ∀ w', Only (· = sb) W3 w' → w'.cell? ⟨w.heap.size, 0, none⟩ = some (.pointer (some ⟨db, 0, none⟩)) := fun w' hO => (hO.blk hbox3 hsbk).cells.c1
        have hsafe : ∀ w', Only (· = sb) W3 w' → w'.cell? ⟨db, 0, none⟩ = some (.slice (some ⟨sb, 0, none⟩) d1.safe.length kS) := fun w' hO => by
          have := (hO.blk H3'.hd H3'.ds).cells.c5.1
          rwa [hlen1] at this
        have H3d := Lib.hid (H3'.keep (w' := W3.drew) (S' := S) (fun _ _ _ => rfl) (fun _ h => h))
        have i0 : (0 : Int) ≤ (i : Int) := by omega
        have i1 : (i : Int) < (d1.safe.length : Int) := by omega
        have HD3 := Lib.hid hD3
        have Hl3 := Lib.hid hl3
        have Ho3 := Lib.hid ho3
        clear H3' hbox3 hD3 hl3 ho3
        gi_wp2_with fail
        refine wpIn_region_held (S := fun w' => Only (· = sb) W3 w') (by kernel_rfl) (by rintro ⟨a, w, h⟩; exact h) (by kernel_rfl) (Only.drew W3) (fun hHeld => ?_)
        refine wpAnyH_take (i := 0) (v := .pointer (some ⟨db, 0, none⟩)) rfl (by kernel_rfl) (by kernel_rfl) (by kernel_rfl) (fun _ _ _ h => h) (Or.inl ⟨by rfl, ?_⟩) hHeld ?_
        · intro w' hSw; have hcc := hbox w' hSw; go_simp
        try simp only [Act.put, List.setIfInBounds_toArray, List.set_cons_zero, List.set_cons_succ]
        refine wpAnyH_take (i := 1) (v := .pointer (some ⟨db, 0, none⟩)) rfl (by kernel_rfl) (by kernel_rfl) (by kernel_rfl) (fun _ _ _ h => h) (Or.inl ⟨by rfl, ?_⟩) hHeld ?_
        · intro w' hSw; go_simp
        try simp only [Act.put, List.setIfInBounds_toArray, List.set_cons_zero, List.set_cons_succ]
        refine wpAnyH_take (i := 2) (v := .pointer (some ⟨db, 0, none⟩)) rfl (by kernel_rfl) (by kernel_rfl) (by kernel_rfl) (fun _ _ _ h => h) (Or.inl ⟨by rfl, ?_⟩) hHeld ?_
        · intro w' hSw; go_simp
        try simp only [Act.put, List.setIfInBounds_toArray, List.set_cons_zero, List.set_cons_succ]
        refine wpAnyH_take (i := 3) (v := .slice (some ⟨sb, 0, none⟩) d1.safe.length kS) rfl (by kernel_rfl) (by kernel_rfl) (by kernel_rfl) (fun _ _ _ h => h) (Or.inl ⟨by rfl, ?_⟩) hHeld ?_
        · intro w' hSw; have hcc := hsafe w' hSw; go_simp
        try simp only [Act.put, List.setIfInBounds_toArray, List.set_cons_zero, List.set_cons_succ]
        refine wpAnyH_take (i := 4) (v := .int .i64 i) rfl (by kernel_rfl) (by kernel_rfl) (by kernel_rfl) (fun _ _ _ h => h) (Or.inl ⟨by rfl, ?_⟩) hHeld ?_
        · intro w' hSw; go_simp
        try simp only [Act.put, List.setIfInBounds_toArray, List.set_cons_zero, List.set_cons_succ]
        refine wpAnyH_take (i := 5) (v := .pointer (some ⟨db, 0, none⟩)) rfl (by kernel_rfl) (by kernel_rfl) (by kernel_rfl) (fun _ _ _ h => h) (Or.inl ⟨by rfl, ?_⟩) hHeld ?_
        · intro w' hSw; have hcc := hbox w' hSw; go_simp
        try simp only [Act.put, List.setIfInBounds_toArray, List.set_cons_zero, List.set_cons_succ]
        refine wpAnyH_take (i := 6) (v := .int .i64 i) rfl (by kernel_rfl) (by kernel_rfl) (by kernel_rfl) (fun _ _ _ h => h) (Or.inl ⟨by rfl, ?_⟩) hHeld ?_
        · intro w' hSw; go_simp
        try simp only [Act.put, List.setIfInBounds_toArray, List.set_cons_zero, List.set_cons_succ]
        refine wpAnyH_ready (rs := [7]) (by kernel_rfl) (by simp) ?_
        refine allCall (f := 32) (args := #[.pointer (some ⟨db, 0, none⟩), .int .i64 i]) rfl (by kernel_rfl) ?_ ?_ AllReadyH.nil
        · go_simp
        refine bytes_any S db sb wb kS kW ws' (d1.upTo d1.last i) i (by rw [hlen1]; exact hi) W3.drew H3d.out _ (fun Wa hBa => ⟨_, rfl, (Only.drew W3).trans (Below.only hBa), ?_⟩)
        have Ha := Lib.hid (H3d.out.keep (S' := S) (fun k _ hlt => hBa.block k hlt) (fun _ h => h))
        have hsl := Ha.out.last_length i (by rw [hlen1]; exact hi)
        rw [d1.upTo_last d1.last i hi] at hsl ⊢
        have hOa : Only (· = sb) W3 Wa := (Only.drew W3).trans (Below.only hBa)
        have hcs := sec_at' Ha.out.hs Ha.out.ls i (by rw [hlen1]; exact hi)
        have hth : Wa.there sb (i * 128) (secE (d1.last i)).toArray.size := by
          rw [List.size_toArray, secE_length, hsl]
          exact there_sec hcs (Ha.out.ls _ (List.getElem_mem _)) Ha.out.hs.free
        have hsz : (Try.prog.info? 73).map (·.size) = some (secE (d1.last i)).toArray.size := sizeS.trans (congrArg some (by rw [List.size_toArray, secE_length, hsl]))
        have hone := one_sec (d1.last i)
        have Hb : Hid (DkIn (Wa.setCells sb (i * 128) (secE (d1.last i)).toArray.toList) S db sb wb kS kW ws' ⟨(d1.upTo d1.last i).safe.set i (d1.last i), (d1.upTo d1.last i).writes, d1.fuse, d1.down, d1.ops⟩) := Lib.hid (Ha.out.store i (by rw [hlen1]; exact hi) (d1.last i) hsl)
        have hOb : Only (· = sb) W3 (Wa.setCells sb (i * 128) (secE (d1.last i)).toArray.toList) := hOa.trans (Only.setCells _ (A := (· = sb)) rfl _ _)
        have hsb8 : (Wa.setCells sb (i * 128) (secE (d1.last i)).toArray.toList).heap.size = Wa.heap.size := setCells_size _ _ _ _
        have Hl3b := Lib.hid (show Wa.heap[L]? = some (.loop (RL .busy none)) from (hBa.block L (show L < W3.heap.size by omega)).trans Hl3.out)
        clear hcs Ha H3d
        generalize hsq : d1.last i = s at *
        try simp only [Act.put, List.setIfInBounds_toArray, List.set_cons_zero, List.set_cons_succ]
        refine wpAnyH_ready (rs := [8]) (by kernel_rfl) (by simp) ?_
        refine allVal (v := .pointer (some ⟨sb, i * 128, none⟩)) (w' := Wa) rfl (by kernel_rfl) ?_ hOa ?_ AllReadyH.nil
        · go_simp
        try simp only [Act.put, List.setIfInBounds_toArray, List.set_cons_zero, List.set_cons_succ]
        refine wpAnyH_ready (rs := [9]) (by kernel_rfl) (by simp) ?_
        refine allSkip (w' := Wa.setCells sb (i * 128) (secE s).toArray.toList) rfl (by kernel_rfl) (execStoreMid 73 (.tmp 29) (.tmp 28) rfl sb (i * 128) (secE s).toArray (by kernel_rfl) (by kernel_rfl) hth hsz hone) hOb ?_ AllReadyH.nil
        try simp only [Act.put, List.setIfInBounds_toArray, List.set_cons_zero, List.set_cons_succ]
        refine wpAnyH_done (by kernel_rfl) ?_ _
        have hlw : i < ws'.length := by have e1 := Hb.out.lw; rw [List.length_set, hlen1] at e1; omega
        have cwi : (Wa.setCells sb (i * 128) (secE s).toArray.toList).cell? ⟨wb, i, none⟩ = some ws'[i] := by have := Hb.out.hw.cells i ws'[i] (List.getElem?_eq_getElem hlw); rwa [Nat.zero_add] at this
        have fwi := Hb.out.hw.free i
        have cdb : (Wa.setCells sb (i * 128) (secE s).toArray.toList).cell? ⟨db, 1, none⟩ = some (.slice (some ⟨wb, 0, none⟩) d1.safe.length kW) := by
          have e1 := Hb.out.hd.cells.c5.2.1
          rw [Nat.zero_add, List.length_set, hlen1] at e1
          exact e1
        have cbx := hbox _ hOb
        have hl6 := (hOb.block L (by omega) (by have := HS3.out sb Hb.out.ss; omega)).trans Hl3.out
        have hD6 := (hOb.block W4.heap.size (by omega) (by have := HS3.out sb Hb.out.ss; omega)).trans HD3.out
        have Hd := Lib.hid (Hb.out.drop i hlw)
        have hOS : Only S W3 (Wa.setCells sb (i * 128) (secE s).toArray.toList) := hOb.mono (fun k _ e => by rw [e]; exact Hb.out.ss)
        have hsw := Hb.out.sw
        have hs6 := hOb.size
        have hWB : wb < (Wa.setCells sb (i * 128) (secE s).toArray.toList).heap.size := Hb.out.hw.lt
        clear hbox hsafe hth hsz hone hOa hOb hHeld Hb hsb8 Hl3b hBa
        generalize Wa.setCells sb (i * 128) (secE s).toArray.toList = Wb at *
        have Hl6 := Lib.hid hl6
        have HD6 := Lib.hid hD6
        have HOS := Lib.hid hOS
        clear hl6 hD6 hOS
        gi_wp2_with fail
        have hwS := HS3.out wb hsw
        have h9 : Only (· = wb) Wb (Wb.setCell ⟨wb, i, none⟩ (.slice none 0 0)) := Only.setCell (A := (· = wb)) Wb (p := ⟨wb, i, none⟩) rfl _
        have hl9 := (h9.block L (by omega) (by omega)).trans Hl6.out
        have hD9 := (h9.block W4.heap.size (by omega) (by omega)).trans HD6.out
        have hs9 := h9.size
        refine roundPost_normalR HRL.out hl9 ?_
        have h10 : Only (· = L) (Wb.setCell ⟨wb, i, none⟩ (.slice none 0 0)) ((Wb.setCell ⟨wb, i, none⟩ (.slice none 0 0)).putObj L (.loop (RL .ready none))) := Only.putObj (A := (· = L)) _ (b := L) rfl _
        have hl10 : ((Wb.setCell ⟨wb, i, none⟩ (.slice none 0 0)).putObj L (.loop (RL .ready none))).heap[L]? = some (.loop (RL .ready none)) := World.putObj_heap_same (by omega)
        have hD10 := (h10.block W4.heap.size (by omega) (by omega)).trans hD9
        have hs10 := h10.size
        have H10 := Hd.out.keep (S' := S) (fun k hk _ => h10.block k (by have := HS3.out k hk; omega) (by have := HS3.out k hk; omega)) (fun _ h => h)
        refine ⟨rfl, ⟨?_, ?_, ?_, ?_, fun k hk hn => ?_⟩, ⟨_, by rw [d1.upTo_step d1.last i, hsq]; exact H10⟩, hl10, hD10⟩
        · exact h10.os.trans (h9.os.trans (HOS.out.os.trans (Ho3.out.os.trans Hj1.out.os)))
        · exact h10.tape.trans (h9.tape.trans (HOS.out.tape.trans (Ho3.out.tape.trans Hj1.out.tape)))
        · exact h10.output.trans (h9.output.trans (HOS.out.output.trans (Ho3.out.output.trans Hj1.out.output)))
        · have := Hj1.out.size; omega
        · have hk1 := Hj1.out.size
          by_cases hkL : k = L
          · subst hkL
            exact hl10.trans (Hj4.out.symm.trans (Hj1.out.block k hk hn))
          · exact (h10.block k (by omega) hkL).trans ((h9.block k (by omega) (fun e => hn (e ▸ hsw))).trans ((HOS.out.block k (by omega) hn).trans ((Ho3.out.block k (by omega) hkL).trans (Hj1.out.block k hk hn))))
      case hend =>
        rintro e W6 ⟨⟨v, rfl⟩, c, -, ⟨j1, ⟨ws', j2⟩, j4, j5⟩⟩
        refine ⟨⟨v, rfl⟩, .ready, none, by simp, j4, ?_⟩
        show Exit.inBlock 0 _ Exit.normal _ (W6.putObj (W4.heap.size + 1) (.loop (RL .exhausted none)))
        have hs6 := j1.size
        have hsS : ∀ k, S k → k < W4.heap.size := fun k hk => by have := HS.out k hk; omega
        have h7 : Only (· = W4.heap.size + 1) W6 (W6.putObj (W4.heap.size + 1) (.loop (RL .exhausted none))) := Only.putObj (A := (· = W4.heap.size + 1)) _ (b := W4.heap.size + 1) rfl _
        have hs7 : (W6.putObj (W4.heap.size + 1) (.loop (RL .exhausted none))).heap.size = W6.heap.size := World.putObj_size
        generalize W6.putObj (W4.heap.size + 1) (.loop (RL .exhausted none)) = W7 at *
        have H7 := j2.keep (S' := S) (fun k hk _ => h7.block k (by have := hsS k hk; omega) (by have := hsS k hk; omega)) (fun _ h => h)
        have hD7 : W7.heap[W4.heap.size]? = some (.deferred (some [])) := (h7.block _ (by omega) (by omega)).trans j5
        have h8 : Only (· = W4.heap.size) W7 (W7.putObj W4.heap.size (.deferred none)) := Only.putObj (A := (· = W4.heap.size)) _ (b := W4.heap.size) rfl _
        have H8 := H7.keep (S' := S) (fun k hk _ => h8.block k (by have := hsS k hk; omega) (by have := hsS k hk; omega)) (fun _ h => h)
        have hO := Only.transNew (Only.transNew ((HO3.out.trans (Below.only hB5)).trans j1) h7 (fun k e => by omega)) h8 (fun k e => by omega)
        have hr := HR.out _ hO ⟨_, _, _, _, _, H8⟩
        have HD7 := Lib.hid hD7
        clear hs3 hlD hlL hs5 hK5 hkb5 hnn hlr cdb j1 j2 j4 j5 hs6 hsS h7 hs7 H7 hD7 h8 H8 hO HS HO3 H3 H5 hk3 hkb3 hB5
        go_wp2_with fail
        refine ⟨by simp, .inl ⟨_, _, rfl, run_takeDeferred HD7.out, ?_⟩⟩
        exact ⟨_, results_tmp (t := 2) rfl _ _ _, fin hr rfl⟩
end Go.Proofs.Ytfmpafheodpfoaa
