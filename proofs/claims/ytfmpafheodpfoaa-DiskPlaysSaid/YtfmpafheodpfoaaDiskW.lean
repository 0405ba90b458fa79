/- disk.Write: the walk. (Printed by diskwr.py.) -/
import Derived.Test.YtfmpafheodpfoaaDiskWr
namespace Go.Proofs.Ytfmpafheodpfoaa
open Go.RowKit
attribute [local go_sem ↓] Go.wp_at_zero Go.wp_at_succ

theorem Bytes.secOf {lo hi : Nat} {w : World} {v : Value} {b : List UInt8} (h : Bytes lo hi w v b) (hl : b.length = 128) : ∃ bb off cap, v = .slice (some ⟨bb, off, none⟩) 128 cap ∧ 128 ≤ cap ∧ lo ≤ bb ∧ bb < hi ∧ CellsAt w bb off (secE b) := by
  obtain ⟨ao, cap, rfl, h1, h2, -, hc⟩ := h.form
  obtain ⟨bb, off, rfl, p1, p2, q⟩ := hc 0 (by omega)
  refine ⟨bb, off, cap, by rw [hl], by omega, p1, p2, fun j u hu => ?_⟩
  have hj : j < b.length := by have := (List.getElem?_eq_some_iff.1 hu).1; rwa [secE_length] at this
  obtain ⟨cs, -, hcs, e⟩ := q j hj
  have e' : cs = bE b[j] := e
  subst e'
  have := hcs.c1
  rw [Nat.mul_one] at this
  rw [this]
  rw [secE, flatMap_bE] at hu
  simpa [hj] using hu
theorem DkAt.upd {w : World} {S : Nat → Prop} {db sb wb kS kW : Nat} {ws : List Value} {d : Dk} (h : DkIn w S db sb wb kS kW ws d) : DkAt w S db d := ⟨sb, wb, kS, kW, ws, h⟩
theorem wantedIte {c : Bool} {p q : Prop} (hc : c = true) (h : p) : if c = true then p else q := by rw [if_pos hc]; exact h
theorem opVal {P : Program} {o : Oper} {a : Act} {w : World} {K : Act → World → Prop} {Q : Exit → Act → World → Prop} {v : Value} {w' : World} (h : (execOp a.eval o).run P w = .ok (.value v) w') (hK : K (a.put o.dst v) w') : Oper.wp P o a w K Q := by
  unfold Oper.wp
  rw [h]
  exact hK
theorem opSkip {P : Program} {o : Oper} {a : Act} {w : World} {K : Act → World → Prop} {Q : Exit → Act → World → Prop} {w' : World} (h : (execOp a.eval o).run P w = .ok .skip w') (hK : K (a.put o.dst undef) w') : Oper.wp P o a w K Q := by
  unfold Oper.wp
  rw [h]
  exact hK
theorem appS1 {w : World} {v : Value} {xs : List (List UInt8)} {s : List UInt8} (h : OwnS w v xs) {x : Value} (hs : Src Try.prog 128 64 x [s].length ([s].flatMap secE) w) (hb : xs.length + [s].length ≤ 100000000) :
    ∃ g cap w', (Builtin.append_ #[64, 64] 64 #[v, x]).run Try.prog w = .ok (.slice (some ⟨g, 0, none⟩) (xs.length + 1) cap) w' ∧ OwnS w' (.slice (some ⟨g, 0, none⟩) (xs.length + 1) cap) (xs ++ [s]) ∧ Appended w v w' (.slice (some ⟨g, 0, none⟩) (xs.length + 1) cap) := by
  obtain ⟨v', w', hr, ho, ha⟩ := appS (ty := 64) h hs hb (Nat.zero_le _)
  obtain ⟨g, cap, rfl, -⟩ := ho.form (by simp)
  rw [List.length_append, List.length_singleton] at hr ho ha
  exact ⟨g, cap, w', hr, ho, ha⟩
section
variable {P : Program} {ops : Array Oper} {Q : Exit → Act → World → Prop} {md : Region.Mode} {S : World → Prop}
/-- An operation that comes up next and yields a value. -/
theorem allVal {fuel : Nat} {listed : Array Bool} {a : Act} {w w' : World} {i : Nat} {o : Oper} {rs : List Nat} {v : Value} (ho : ops[i]? = some o) (hw : Region.wanted o (yielded ops a.tmps) = true) (hr : (execOp a.eval o).run P w = .ok (.value v) w')
    (hS : S w') (h : wpAnyH P md ops Q S fuel (listed.setIfInBounds i true) (a.put o.dst v) w') (hs : AllReadyH P md ops Q S fuel listed a w rs) : AllReadyH P md ops Q S fuel listed a w (i :: rs) :=
  AllReadyH.cons ho (fun _ hK => wantedIte hw (opVal hr (hK.out _ _ hS (fun _ => h)))) hs
theorem allSkip {fuel : Nat} {listed : Array Bool} {a : Act} {w w' : World} {i : Nat} {o : Oper} {rs : List Nat} (ho : ops[i]? = some o) (hw : Region.wanted o (yielded ops a.tmps) = true) (hr : (execOp a.eval o).run P w = .ok .skip w')
    (hS : S w') (h : wpAnyH P md ops Q S fuel (listed.setIfInBounds i true) (a.put o.dst undef) w') (hs : AllReadyH P md ops Q S fuel listed a w rs) : AllReadyH P md ops Q S fuel listed a w (i :: rs) :=
  AllReadyH.cons ho (fun _ hK => wantedIte hw (opSkip hr (hK.out _ _ hS (fun _ => h)))) hs
theorem execBuild {o : Oper} {ρ : Operand → Value} {w : World} {t : TypeId} {n : Nat} {ps : Array (Nat × Operand)} {qs : Array (Nat × Value)} {v' : Value} {w' : World}
    (hrun : (Instr.buildSlice t n qs).run P w = .ok v' w') (ho : o.op = .buildSlice t n ps) (hq : ps.map (fun p => (p.1, ρ p.2)) = qs) : (execOp ρ o).run P w = .ok (.value v') w' := by
  unfold execOp
  simp only [ho, Sem.run_bind, Sem.run_pure, hq, hrun, Result.andThen_ok]
theorem execApp {o : Oper} {ρ : Operand → Value} {w : World} {s x : Operand} {t tx : TypeId} {v' : Value} {w' : World} {sv xv : Value}
    (hrun : (Builtin.append_ #[t, tx] o.type #[sv, xv]).run P w = .ok v' w') (ho : o.op = .call { callee := .builtin .append, args := #[s, x], argTypes := #[t, tx] }) (hs : ρ s = sv) (hx : ρ x = xv) : (execOp ρ o).run P w = .ok (.value v') w' := by
  unfold execOp
  simp only [ho, resolve, invoke, builtin, Sem.run_bind, Sem.run_pure, Result.andThen_ok, List.map_toArray, List.map_cons, List.map_nil, hs, hx, hrun]
end
theorem run_arrayAt {P : Program} {w : World} {t e : TypeId} {n len cap : Nat} {p : Option Addr} (hu : P.underlying t = some (.array n e)) (hl : n ≤ len) : (Instr.arrayAt t (.slice p len cap)).run P w = .ok (.pointer p) w := by
  simp [Instr.arrayAt, underlying, hu, Nat.not_lt.2 hl]

set_option maxRecDepth 100000 in
set_option maxHeartbeats 4000000 in
theorem Write_any (S : Nat → Prop) (lo hi db : Nat) (d : Dk) (i : Int) (v : Value) (b : List UInt8) (w : World) (h : DkAt w S db d) (hv : Bytes lo hi w v b) (hhi : hi ≤ w.heap.size) (hap : ∀ k, S k → k < lo ∨ hi ≤ k)
    (hf : d.fuse ≤ 9223372036854775807 ∧ -9223372036854775808 ≤ d.fuse) (hops : 0 ≤ d.ops ∧ d.ops < 1000000) (hcnt : ∀ l ∈ d.writes, l.length ≤ 1000000) (R : Ending → World → Prop)
    (hRe : upE d.safe.length d.down i ≠ 0 → R (.returned (.int .i64 (upE d.safe.length d.down i))) w)
    (hR2 : upE d.safe.length d.down i = 0 → b.length ≠ 128 → R (.returned (.int .i64 2)) w)
    (hR3 : upE d.safe.length d.down i = 0 → b.length = 128 → d.fuse = 0 → ∀ w', Only S w w' → w'.heap.size = w.heap.size → DkAt w' S db ⟨d.safe, d.writes, d.fuse, true, d.ops⟩ → R (.returned (.int .i64 210)) w')
    (hR4 : upE d.safe.length d.down i = 0 → b.length = 128 → d.fuse ≠ 0 → ∀ w', Only S w w' → DkAt w' (fun k => S k ∨ (w.heap.size ≤ k ∧ k < w'.heap.size)) db ⟨d.safe, d.writes.set i.toNat (d.writes.getD i.toNat [] ++ [b]), fuse1 d.fuse, d.down, d.ops + 1⟩ → R (.returned (.int .i64 0)) w') :
    Calls Try.prog 13 #[.pointer (some ⟨db, 0, none⟩), .int .i64 i, v] w R := by
  obtain ⟨sb, wb, kS, kW, ws, h⟩ := h
  have HR3 := Lib.hid hR3
  have HR4 := Lib.hid hR4
  have HR2 := Lib.hid hR2
  have HV := Lib.hid hv
  have H := Lib.hid h
  have Hcnt := Lib.hid hcnt
  have Hap := Lib.hid hap
  have hpos := h.pos
  obtain ⟨ao, vcap, rfl, q1, q2, -, -⟩ := hv.form
  clear hR2 hR3 hR4 h hv hcnt hap
  go_enter Try.func13, Try.ntmps13
  go_wp2_with fail
  refine up_any db _ _ _ _ _ _ _ i w H.out.hd hpos _ ?_
  by_cases he : upE d.safe.length d.down i = 0
  · have hr2 := HR2.out he
    have hb : 0 ≤ i ∧ i < (d.safe.length : Int) := by
      simp only [upE] at he
      constructor <;> (split at he <;> first | omega | (split at he <;> first | omega | (rename_i h1; omega)))
    obtain ⟨n, rfl⟩ := Int.eq_ofNat_of_zero_le hb.1
    have hr3 := HR3.out he
    have hr4 := HR4.out he
    rw [he]
    clear he hRe HR2 HR3 HR4
    by_cases hl : b.length = 128
    · replace hr3 := hr3 hl
      replace hr4 := hr4 hl
      clear hr2
      have Hr4 := Lib.hid hr4
      have Hr3 := Lib.hid hr3
      clear hr3 hr4
      go_wp2_with fail
      refine counts_any db _ _ _ _ _ w H.out.hd hf hops _ (fun hf0 w1 hd1 hw1 => ?_) (fun hf1 w1 hd1 hb1 hk1 hs1 => ?_)
      · have hr := Hr3.out hf0 w1 (by rw [hw1]; exact Only.setCell w (p := ⟨db, 3, none⟩) H.out.sd _) (by rw [hw1]; simp [World.setCell]) ⟨sb, wb, kS, kW, ws, H.out.head _ _ _ (fun k hk => by rw [hw1]; exact Below.heap_setCell _ _ _ _ hk) hd1⟩
        clear hw1 hd1
        go_wp2_with fail
        all_goals first | exact hr | exact fin hr rfl
      · have H1 := Lib.hid (H.out.head _ _ _ hk1 hd1)
        obtain ⟨bb, off, cap, e, q3, q4, q5, hc⟩ := HV.out.secOf hl
        obtain ⟨rfl, -, rfl⟩ : ao = some ⟨bb, off, none⟩ ∧ b.length = 128 ∧ vcap = cap := by injection e with e1 e2 e3; exact ⟨e1, e2, e3⟩
        have hbS : ¬ S bb := fun hs => by have := Hap.out bb hs; omega
        have hcs : CellsAt w1 bb off (secE b) := fun j u hu => (World.cell?_of_block (hk1 bb (fun e => hbS (e ▸ H.out.sd)))).trans (hc j u hu)
        have hO1 : Only S w w1 := ⟨(hb1 0 (Nat.zero_le _)).os, (hb1 0 (Nat.zero_le _)).tape, (hb1 0 (Nat.zero_le _)).output, Nat.le_of_eq hs1.symm, fun k _ hk => hk1 k (fun e => hk (e ▸ H.out.sd))⟩
        have hr : ∀ w', Only S w1 w' → DkAt w' (fun k => S k ∨ (w1.heap.size ≤ k ∧ k < w'.heap.size)) db ⟨d.safe, d.writes.set n (d.writes.getD n [] ++ [b]), fuse1 d.fuse, d.down, d.ops + 1⟩ → R (.returned (.int .i64 0)) w' := fun w' h1 h2 => Hr4.out hf1 w' (hO1.trans h1) (by rw [hs1] at h2; exact h2)
        have HR := Lib.hid hr
        clear hr Hr4 Hr3 hO1 hk1 hb1 hs1 hd1 hc
        have lw : ws.length = d.safe.length := H1.out.lw
        have lr : d.writes.length = d.safe.length := H1.out.lr
        have lws : n < ws.length := by omega
        have hn2 : n < d.writes.length := by omega
        obtain ⟨-, c1, -, -, -⟩ := H1.out.hd.cells.c5
        simp only [Nat.zero_add] at c1
        have cw : w1.cell? ⟨wb, n, none⟩ = some ws[n] := by have := H1.out.hw.cells n ws[n] (List.getElem?_eq_getElem lws); rwa [Nat.zero_add] at this
        have fw := H1.out.hw.free n
        have hwblt := H1.out.hw.lt
        have hdblt := H1.out.hd.lt
        have hbblt : bb < w1.heap.size := World.block_lt_of_cell? _ _ (hcs 0 ((secE b)[0]'(by rw [secE_length]; omega)) (List.getElem?_eq_getElem (by rw [secE_length]; omega)))
        have i0 : (0 : Int) ≤ (n : Int) := by omega
        have i1 : (n : Int) < (d.safe.length : Int) := hb.2
        go_wp2_with fail
        have hbs := run_bsS b hl
        obtain ⟨ho0, ho⟩ := H1.out.row n lws hn2
        have hmine := H1.out.mine n lws
        have hSm : ∀ w', Only (fun k => k = wb ∨ ws[n].ownBlock = some k) w1 w' → w'.cell? ⟨db, 1, none⟩ = some (.slice (some ⟨wb, 0, none⟩) d.safe.length kW) ∧ CellsAt w' bb off (secE b) := fun w' hO =>
          ⟨(World.cell?_of_block (hO.block db hdblt (fun e => by
            rcases e with e | e
            · exact H1.out.dw e
            · exact (hmine db e).2.1 rfl))).trans c1, fun j u hu => (World.cell?_of_block (hO.block bb hbblt (fun e => by
            rcases e with e | e
            · exact hbS (e ▸ H1.out.sw)
            · exact hbS (hmine bb e).1))).trans (hcs j u hu)⟩
        have hu := Try.underlying73
        refine wp_region_held_drew (S := fun w' => Only (fun k => k = wb ∨ ws[n].ownBlock = some k) w1 w') (by kernel_rfl) (Only.drew w1) (fun hHeld => ?_)
        refine wpAnyH_take (i := 0) (v := .pointer (some ⟨db, 0, none⟩)) rfl (by kernel_rfl) (by kernel_rfl) (by kernel_rfl) (fun _ _ _ h => h) (Or.inl ⟨by rfl, ?_⟩) hHeld ?_
        · intro w' hSw; go_simp
        try simp only [Act.put, List.setIfInBounds_toArray, List.set_cons_zero, List.set_cons_succ]
        refine wpAnyH_take (i := 1) (v := .pointer (some ⟨db, 0, none⟩)) rfl (by kernel_rfl) (by kernel_rfl) (by kernel_rfl) (fun _ _ _ h => h) (Or.inl ⟨by rfl, ?_⟩) hHeld ?_
        · intro w' hSw; go_simp
        try simp only [Act.put, List.setIfInBounds_toArray, List.set_cons_zero, List.set_cons_succ]
        refine wpAnyH_take (i := 2) (v := .pointer (some ⟨db, 1, none⟩)) rfl (by kernel_rfl) (by kernel_rfl) (by kernel_rfl) (fun _ _ _ h => h) (Or.inl ⟨by rfl, ?_⟩) hHeld ?_
        · intro w' hSw; go_simp
        try simp only [Act.put, List.setIfInBounds_toArray, List.set_cons_zero, List.set_cons_succ]
        refine wpAnyH_take (i := 3) (v := .slice (some ⟨wb, 0, none⟩) d.safe.length kW) rfl (by kernel_rfl) (by kernel_rfl) (by kernel_rfl) (fun _ _ _ h => h) (Or.inl ⟨by rfl, ?_⟩) hHeld ?_
        · intro w' hSw; have hcc := (hSm w' hSw).1; clear hcs c1 cw; go_simp
        try simp only [Act.put, List.setIfInBounds_toArray, List.set_cons_zero, List.set_cons_succ]
        refine wpAnyH_take (i := 4) (v := .int .i64 n) rfl (by kernel_rfl) (by kernel_rfl) (by kernel_rfl) (fun _ _ _ h => h) (Or.inl ⟨by rfl, ?_⟩) hHeld ?_
        · intro w' hSw; go_simp
        try simp only [Act.put, List.setIfInBounds_toArray, List.set_cons_zero, List.set_cons_succ]
        refine wpAnyH_take (i := 5) (v := .pointer (some ⟨db, 0, none⟩)) rfl (by kernel_rfl) (by kernel_rfl) (by kernel_rfl) (fun _ _ _ h => h) (Or.inl ⟨by rfl, ?_⟩) hHeld ?_
        · intro w' hSw; go_simp
        try simp only [Act.put, List.setIfInBounds_toArray, List.set_cons_zero, List.set_cons_succ]
        refine wpAnyH_take (i := 6) (v := .pointer (some ⟨db, 0, none⟩)) rfl (by kernel_rfl) (by kernel_rfl) (by kernel_rfl) (fun _ _ _ h => h) (Or.inl ⟨by rfl, ?_⟩) hHeld ?_
        · intro w' hSw; go_simp
        try simp only [Act.put, List.setIfInBounds_toArray, List.set_cons_zero, List.set_cons_succ]
        refine wpAnyH_take (i := 7) (v := .pointer (some ⟨db, 1, none⟩)) rfl (by kernel_rfl) (by kernel_rfl) (by kernel_rfl) (fun _ _ _ h => h) (Or.inl ⟨by rfl, ?_⟩) hHeld ?_
        · intro w' hSw; go_simp
        try simp only [Act.put, List.setIfInBounds_toArray, List.set_cons_zero, List.set_cons_succ]
        refine wpAnyH_take (i := 8) (v := .slice (some ⟨wb, 0, none⟩) d.safe.length kW) rfl (by kernel_rfl) (by kernel_rfl) (by kernel_rfl) (fun _ _ _ h => h) (Or.inl ⟨by rfl, ?_⟩) hHeld ?_
        · intro w' hSw; have hcc := (hSm w' hSw).1; clear hcs c1 cw; go_simp
        try simp only [Act.put, List.setIfInBounds_toArray, List.set_cons_zero, List.set_cons_succ]
        refine wpAnyH_take (i := 9) (v := .int .i64 n) rfl (by kernel_rfl) (by kernel_rfl) (by kernel_rfl) (fun _ _ _ h => h) (Or.inl ⟨by rfl, ?_⟩) hHeld ?_
        · intro w' hSw; go_simp
        try simp only [Act.put, List.setIfInBounds_toArray, List.set_cons_zero, List.set_cons_succ]
        refine wpAnyH_take (i := 10) (v := .pointer (some ⟨wb, n, none⟩)) rfl (by kernel_rfl) (by kernel_rfl) (by kernel_rfl) (fun _ _ _ h => h) (Or.inl ⟨by rfl, ?_⟩) hHeld ?_
        · intro w' hSw; go_simp
        try simp only [Act.put, List.setIfInBounds_toArray, List.set_cons_zero, List.set_cons_succ]
        refine wpAnyH_take (i := 12) (v := .slice (some ⟨bb, off, none⟩) 128 vcap) rfl (by kernel_rfl) (by kernel_rfl) (by kernel_rfl) (fun _ _ _ h => h) (Or.inl ⟨by rfl, ?_⟩) hHeld ?_
        · intro w' hSw; go_simp
        try simp only [Act.put, List.setIfInBounds_toArray, List.set_cons_zero, List.set_cons_succ]
        refine wpAnyH_take (i := 13) (v := .pointer (some ⟨bb, off, none⟩)) rfl (by kernel_rfl) (by kernel_rfl) (by kernel_rfl) (fun _ _ _ h => h) (Or.inl ⟨by rfl, ?_⟩) hHeld ?_
        · intro w' hSw; go_simp; rw [run_arrayAt hu (Nat.le_refl 128)]; rfl
        try simp only [Act.put, List.setIfInBounds_toArray, List.set_cons_zero, List.set_cons_succ]
        refine wpAnyH_take (i := 14) (v := .agg (secE b).toArray) rfl (by kernel_rfl) (by kernel_rfl) (by kernel_rfl) (fun _ _ _ h => h) ?_ hHeld ?_
        · refine yieldsIf_load_mid ?_ 73 (.tmp 36) ?_ bb off ?_ (secE b) (.array 128 5) (fun w' hSw => (hSm w' hSw).2) hu ?_ ?_
          · rfl
          · rfl
          · kernel_rfl
          · rfl
          · exact sizeS.trans (congrArg some (by rw [secE_length, hl]))
        try simp only [Act.put, List.setIfInBounds_toArray, List.set_cons_zero, List.set_cons_succ]
        clear c1 hcs
        have eg : d.writes.getD n [] = d.writes[n] := by simp [List.getD, List.getElem?_eq_getElem hn2]
        have hcn := Hcnt.out _ (List.getElem_mem hn2)
        have hB2 : Below w1.heap.size w1 (w1.drew.alloc (.cells (secE b).toArray 73)) := ((Only.drew (A := fun _ => False) w1).trans (Only.alloc w1.drew _)).below (Nat.le_refl _) (fun _ h => h.elim)
        have hsrc : Src Try.prog 128 64 (.slice (some ⟨w1.drew.heap.size, 0, none⟩) 1 1) [b].length ([b].flatMap secE) (w1.drew.alloc (.cells (secE b).toArray 73)) :=
          srcS (ys := [b]) (by rw [show [b].flatMap secE = secE b by simp]; exact CellsAt.newAt w1.drew (secE b) 73 rfl) (by simpa using hl) rfl
        have hbr := hbs w1.drew
        have hok : OwnS (w1.drew.alloc (.cells (secE b).toArray 73)) ws[n] d.writes[n] := Own.kept ho hB2
        have hbd : d.writes[n].length + [b].length ≤ 100000000 := by
          rw [List.length_singleton]
          exact Nat.le_trans (Nat.add_le_add_right hcn 1) (by decide)
        have ha0 := appS1 (w := (w1.drew.alloc (.cells (secE b).toArray 73))) (v := ws[n]) (x := .slice (some ⟨w1.drew.heap.size, 0, none⟩) 1 1) (xs := d.writes[n]) (s := b) hok hsrc hbd
        refine Exists.elim ha0 fun g ha1 => Exists.elim ha1 fun cap' ha3 => Exists.elim ha3 fun w3 ha2 => ?_
        have hrun := ha2.1
        have hown := ha2.2.1
        have happ := ha2.2.2
        clear ha2 ha3 ha1 ha0
        have hsz2 : w1.heap.size ≤ w3.heap.size := Nat.le_trans hB2.size happ.grown.size
        have hO3 : Only (fun k => ws[n].ownBlock = some k) w1 w3 := (Below.only hB2).trans ⟨happ.grown.os, happ.grown.tape, happ.grown.output, happ.grown.size, fun k hk hA => happ.grown.block k hk (fun e => hA e.symm)⟩
        have hS2 : Only (fun k => k = wb ∨ ws[n].ownBlock = some k) w1 (w1.drew.alloc (.cells (secE b).toArray 73)) := Below.only hB2
        have hS3 : Only (fun k => k = wb ∨ ws[n].ownBlock = some k) w1 w3 := hO3.mono (fun _ _ h => .inr h)
        have hS4 : Only (fun k => k = wb ∨ ws[n].ownBlock = some k) w1 (w3.setCell ⟨wb, n, none⟩ (.slice (some ⟨g, 0, none⟩) (d.writes[n].length + 1) cap')) := hS3.trans (Only.setCell w3 (.inl rfl) _)
        have h4 := H1.out.wrote n lws hn2 b hl (.slice (some ⟨g, 0, none⟩) (d.writes[n].length + 1) cap') (w2 := w3) (fun k hk hne => hO3.block k hk hne) hown (by
          rcases happ.moved with e | ⟨k, e, hk⟩
          · exact .inl e
          · exact .inr ⟨k, e, Nat.le_trans hB2.size hk⟩) hsz2
        have hz4 : (w3.setCell ⟨wb, n, none⟩ (.slice (some ⟨g, 0, none⟩) (d.writes[n].length + 1) cap')).heap.size = w3.heap.size := by simp [World.setCell]
        have hr4 := HR.out (w3.setCell ⟨wb, n, none⟩ (.slice (some ⟨g, 0, none⟩) (d.writes[n].length + 1) cap')) ((hO3.mono (fun k _ e => (hmine k e).1)).trans (Only.setCell w3 H1.out.sw _)) (by rw [hz4, eg]; exact ⟨_, _, _, _, _, h4⟩)
        have cw3 : w3.cell? ⟨wb, n, none⟩ = some ws[n] := (World.cell?_of_block (hO3.block wb hwblt (fun e => (hmine wb e).2.2.2 rfl))).trans cw
        have fw3 : w3.frozen? ⟨wb, n, none⟩ = false := by rw [World.frozen?_of_block (hO3.block wb hwblt (fun e => (hmine wb e).2.2.2 rfl))]; exact fw
        have cwd : ∀ v : Unit, w1.drew.cell? ⟨wb, n, none⟩ = some ws[n] := fun _ => cw
        have cwa : (w1.drew.alloc (.cells (secE b).toArray 73)).cell? ⟨wb, n, none⟩ = some ws[n] := (World.cell?_of_block (hB2.block wb hwblt)).trans cw
        replace cwd := cwd ()
        clear h4 hown happ hO3 hSm hsrc ho ho0
        refine wpAnyH_ready (rs := [11, 15]) (by kernel_rfl) (by simp) ?_
        refine allVal (v := ws[n]) (w' := w1.drew) rfl (by kernel_rfl) ?_ (Only.drew w1) ?_ ?_
        · go_simp
        · try simp only [Act.put, List.setIfInBounds_toArray, List.set_cons_zero, List.set_cons_succ]
          refine wpAnyH_ready (rs := [15]) (by kernel_rfl) (by simp) ?_
          refine allVal rfl (by kernel_rfl) (execBuild hbr rfl (by kernel_rfl)) hS2 ?_ AllReadyH.nil
          try simp only [Act.put, List.setIfInBounds_toArray, List.set_cons_zero, List.set_cons_succ]
          refine wpAnyH_ready (rs := [16]) (by kernel_rfl) (by simp) ?_
          refine allVal rfl (by kernel_rfl) (execApp hrun rfl (by kernel_rfl) (by kernel_rfl)) hS3 ?_ AllReadyH.nil
          try simp only [Act.put, List.setIfInBounds_toArray, List.set_cons_zero, List.set_cons_succ]
          refine wpAnyH_ready (rs := [17]) (by kernel_rfl) (by simp) ?_
          refine allVal (v := .pointer (some ⟨wb, n, none⟩)) (w' := w3) rfl (by kernel_rfl) ?_ hS3 ?_ AllReadyH.nil
          · go_simp
          try simp only [Act.put, List.setIfInBounds_toArray, List.set_cons_zero, List.set_cons_succ]
          refine wpAnyH_ready (rs := [18]) (by kernel_rfl) (by simp) ?_
          refine allSkip (w' := w3.setCell ⟨wb, n, none⟩ (.slice (some ⟨g, 0, none⟩) (d.writes[n].length + 1) cap')) rfl (by kernel_rfl) ?_ hS4 ?_ AllReadyH.nil
          · go_simp
          try simp only [Act.put, List.setIfInBounds_toArray, List.set_cons_zero, List.set_cons_succ]
          refine wpAnyH_done (by kernel_rfl) ?_ _
          go_wp2_with fail
          all_goals first | exact hr4 | exact fin hr4 rfl
        · refine allVal rfl (by kernel_rfl) (execBuild hbr rfl (by kernel_rfl)) hS2 ?_ AllReadyH.nil
          try simp only [Act.put, List.setIfInBounds_toArray, List.set_cons_zero, List.set_cons_succ]
          refine wpAnyH_ready (rs := [11]) (by kernel_rfl) (by simp) ?_
          refine allVal (v := ws[n]) (w' := w1.drew.alloc (.cells (secE b).toArray 73)) rfl (by kernel_rfl) ?_ hS2 ?_ AllReadyH.nil
          · go_simp
          try simp only [Act.put, List.setIfInBounds_toArray, List.set_cons_zero, List.set_cons_succ]
          refine wpAnyH_ready (rs := [16]) (by kernel_rfl) (by simp) ?_
          refine allVal rfl (by kernel_rfl) (execApp hrun rfl (by kernel_rfl) (by kernel_rfl)) hS3 ?_ AllReadyH.nil
          try simp only [Act.put, List.setIfInBounds_toArray, List.set_cons_zero, List.set_cons_succ]
          refine wpAnyH_ready (rs := [17]) (by kernel_rfl) (by simp) ?_
          refine allVal (v := .pointer (some ⟨wb, n, none⟩)) (w' := w3) rfl (by kernel_rfl) ?_ hS3 ?_ AllReadyH.nil
          · go_simp
          try simp only [Act.put, List.setIfInBounds_toArray, List.set_cons_zero, List.set_cons_succ]
          refine wpAnyH_ready (rs := [18]) (by kernel_rfl) (by simp) ?_
          refine allSkip (w' := w3.setCell ⟨wb, n, none⟩ (.slice (some ⟨g, 0, none⟩) (d.writes[n].length + 1) cap')) rfl (by kernel_rfl) ?_ hS4 ?_ AllReadyH.nil
          · go_simp
          try simp only [Act.put, List.setIfInBounds_toArray, List.set_cons_zero, List.set_cons_succ]
          refine wpAnyH_done (by kernel_rfl) ?_ _
          go_wp2_with fail
          all_goals first | exact hr4 | exact fin hr4 rfl
    · have hr := hr2 hl
      have hl2 : ¬ ((b.length : Int) = 128) := by omega
      go_wp2_with fail
      all_goals first | exact hr | exact fin hr rfl
  · have hr := hRe he
    generalize upE d.safe.length d.down i = e at *
    go_wp2_with fail
    all_goals first | exact he | exact hr | exact fin hr rfl
end Go.Proofs.Ytfmpafheodpfoaa
