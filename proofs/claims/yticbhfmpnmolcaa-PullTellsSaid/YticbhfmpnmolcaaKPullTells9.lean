/- Texts that the proofs of PullTells stand on, part 9. -/
import Derived.Test.YticbhfmpnmolcaaKPullTells8
/- May facts be, in the document's words; how great facts are. (Printed by schc.py.) -/
section
set_option linter.unusedVariables false
set_option linter.unusedSimpArgs false
namespace Go.Proofs.Yticbhfmpnmolcaa
open Go.RowKit
set_option linter.unusedVariables false
set_option linter.unusedSimpArgs false

set_option maxRecDepth 100000 in
theorem fCheck_any (lo hi : Nat) (l : List Ft) (v : Value) (w : World) (hv : Fts lo hi w v l) (hhi : hi ≤ w.heap.size) (hl : ∀ x ∈ l, x.v.s.length ≤ 9223372036854775807) (R : Ending → World → Prop) (hR : ∀ w', Below w.heap.size w w' → R (.returned (.int .i64 (if factsB l then 0 else 60))) w') :
    Calls Try.prog 13 #[v] w R := by
  have HR := Lib.hid hR
  have Hv := Lib.hid hv
  have Hl := Lib.hid hl
  obtain ⟨ao, cap, rfl, -, -, -, -⟩ := hv.form
  clear hR hv hl
  go_enter Try.func13, Try.ntmps13
  go_wp2_with fail
  refine fall_any lo hi l _ w Hv.out hhi Hl.out _ (fun w1 hB => ?_)
  have hr := HR.out w1 hB
  clear hB
  cases hs : factsB l
  · rw [hs] at hr
    go_wp2_with fail
    first | exact hr | exact fin hr rfl
  · rw [hs] at hr
    go_wp2_with fail
    first | exact hr | exact fin hr rfl
set_option maxRecDepth 100000 in
set_option maxHeartbeats 4000000 in
theorem fCompare_any (x y : Ft) (sv tv : Value) (w : World) (hx : x.v.s.length ≤ 9223372036854775807) (hy : y.v.s.length ≤ 9223372036854775807) (R : Ending → World → Prop) (hR : ∀ w', Below w.heap.size w w' → R (.returned (.int .i64 (cmpF x y))) w') :
    Calls Try.prog 31 #[.agg #[.int .i64 x.e, .int .i64 x.a, .int .i64 x.v.kind, .int .i64 x.v.n, .string ⟨x.v.s.toArray⟩, sv], .agg #[.int .i64 y.e, .int .i64 y.a, .int .i64 y.v.kind, .int .i64 y.v.n, .string ⟨y.v.s.toArray⟩, tv]] w R := by
  have hBa := alloc_below w (.cells #[.int .i64 x.e, .int .i64 x.a, .int .i64 x.v.kind, .int .i64 x.v.n, .string ⟨x.v.s.toArray⟩, sv] 42)
  have ha := Blk.new w [.int .i64 x.e, .int .i64 x.a, .int .i64 x.v.kind, .int .i64 x.v.n, .string ⟨x.v.s.toArray⟩, sv] 42 rfl
  have hsz : (w.alloc (.cells #[.int .i64 x.e, .int .i64 x.a, .int .i64 x.v.kind, .int .i64 x.v.n, .string ⟨x.v.s.toArray⟩, sv] 42)).heap.size = w.heap.size + 1 := by simp
  have hBb := alloc_below (w.alloc (.cells #[.int .i64 x.e, .int .i64 x.a, .int .i64 x.v.kind, .int .i64 x.v.n, .string ⟨x.v.s.toArray⟩, sv] 42)) (.cells #[.int .i64 y.e, .int .i64 y.a, .int .i64 y.v.kind, .int .i64 y.v.n, .string ⟨y.v.s.toArray⟩, tv] 42)
  have hb := Blk.new (w.alloc (.cells #[.int .i64 x.e, .int .i64 x.a, .int .i64 x.v.kind, .int .i64 x.v.n, .string ⟨x.v.s.toArray⟩, sv] 42)) [.int .i64 y.e, .int .i64 y.a, .int .i64 y.v.kind, .int .i64 y.v.n, .string ⟨y.v.s.toArray⟩, tv] 42 hsz.symm
  by_cases h1 : x.e < y.e
  · have e : cmpF x y = -1 := by simp [cmpF, or3, icmp, h1]
    rw [e] at hR
    have HR := Lib.hid hR
    clear hR e
    go_enter Try.func31, Try.ntmps31
    go_upto_region 1 with fail
    have ha2 := ha.below hBb ha.lt
    generalize (w.alloc (.cells #[.int .i64 x.e, .int .i64 x.a, .int .i64 x.v.kind, .int .i64 x.v.n, .string ⟨x.v.s.toArray⟩, sv] 42)).alloc (.cells #[.int .i64 y.e, .int .i64 y.a, .int .i64 y.v.kind, .int .i64 y.v.n, .string ⟨y.v.s.toArray⟩, tv] 42) = w2 at *
    obtain ⟨x0, x1, x2, x3, x4, -⟩ := ha2.cells.f6
    obtain ⟨y0, y1, y2, y3, y4, -⟩ := hb.cells.f6
    have hr := HR.out w2 (hBa.trans (hBb.mono hBa.size))
    clear ha ha2 hb hBa hBb
    skip
    go_wp2_with fail
    first | exact hr | exact fin hr rfl
  by_cases h2 : y.e < x.e
  · have e : cmpF x y = 1 := by simp [cmpF, or3, icmp, h1, h2]
    rw [e] at hR
    have HR := Lib.hid hR
    clear hR e
    go_enter Try.func31, Try.ntmps31
    go_upto_region 1 with fail
    have ha2 := ha.below hBb ha.lt
    generalize (w.alloc (.cells #[.int .i64 x.e, .int .i64 x.a, .int .i64 x.v.kind, .int .i64 x.v.n, .string ⟨x.v.s.toArray⟩, sv] 42)).alloc (.cells #[.int .i64 y.e, .int .i64 y.a, .int .i64 y.v.kind, .int .i64 y.v.n, .string ⟨y.v.s.toArray⟩, tv] 42) = w2 at *
    obtain ⟨x0, x1, x2, x3, x4, -⟩ := ha2.cells.f6
    obtain ⟨y0, y1, y2, y3, y4, -⟩ := hb.cells.f6
    have hr := HR.out w2 (hBa.trans (hBb.mono hBa.size))
    clear ha ha2 hb hBa hBb
    skip
    go_wp2_with fail
    first | exact hr | exact fin hr rfl
  have he : x.e = y.e := by omega
  by_cases h3 : x.a < y.a
  · have e : cmpF x y = -1 := by simp [cmpF, or3, icmp, he, h3]
    rw [e] at hR
    have HR := Lib.hid hR
    clear hR e
    have He := Lib.hid he
    clear he
    go_enter Try.func31, Try.ntmps31
    go_upto_region 1 with fail
    have ha2 := ha.below hBb ha.lt
    generalize (w.alloc (.cells #[.int .i64 x.e, .int .i64 x.a, .int .i64 x.v.kind, .int .i64 x.v.n, .string ⟨x.v.s.toArray⟩, sv] 42)).alloc (.cells #[.int .i64 y.e, .int .i64 y.a, .int .i64 y.v.kind, .int .i64 y.v.n, .string ⟨y.v.s.toArray⟩, tv] 42) = w2 at *
    obtain ⟨x0, x1, x2, x3, x4, -⟩ := ha2.cells.f6
    obtain ⟨y0, y1, y2, y3, y4, -⟩ := hb.cells.f6
    have hr := HR.out w2 (hBa.trans (hBb.mono hBa.size))
    clear ha ha2 hb hBa hBb
    have he := He.out
    go_wp2_with fail
    first | exact hr | exact fin hr rfl
  by_cases h4 : y.a < x.a
  · have e : cmpF x y = 1 := by simp [cmpF, or3, icmp, he, h3, h4]
    rw [e] at hR
    have HR := Lib.hid hR
    clear hR e
    have He := Lib.hid he
    clear he
    go_enter Try.func31, Try.ntmps31
    go_upto_region 1 with fail
    have ha2 := ha.below hBb ha.lt
    generalize (w.alloc (.cells #[.int .i64 x.e, .int .i64 x.a, .int .i64 x.v.kind, .int .i64 x.v.n, .string ⟨x.v.s.toArray⟩, sv] 42)).alloc (.cells #[.int .i64 y.e, .int .i64 y.a, .int .i64 y.v.kind, .int .i64 y.v.n, .string ⟨y.v.s.toArray⟩, tv] 42) = w2 at *
    obtain ⟨x0, x1, x2, x3, x4, -⟩ := ha2.cells.f6
    obtain ⟨y0, y1, y2, y3, y4, -⟩ := hb.cells.f6
    have hr := HR.out w2 (hBa.trans (hBb.mono hBa.size))
    clear ha ha2 hb hBa hBb
    have he := He.out
    go_wp2_with fail
    first | exact hr | exact fin hr rfl
  have hq : x.a = y.a := by omega
  have e : cmpF x y = cmpV x.v y.v := by simp [cmpF, or3, icmp, he, hq]
  rw [e] at hR
  have HR := Lib.hid hR
  have He := Lib.hid he
  have Hq := Lib.hid hq
  clear he hq e hR
  go_enter Try.func31, Try.ntmps31
  go_upto_region 1 with fail
  have ha2 := ha.below hBb ha.lt
  generalize (w.alloc (.cells #[.int .i64 x.e, .int .i64 x.a, .int .i64 x.v.kind, .int .i64 x.v.n, .string ⟨x.v.s.toArray⟩, sv] 42)).alloc (.cells #[.int .i64 y.e, .int .i64 y.a, .int .i64 y.v.kind, .int .i64 y.v.n, .string ⟨y.v.s.toArray⟩, tv] 42) = w2 at *
  obtain ⟨x0, x1, x2, x3, x4, -⟩ := ha2.cells.f6
  obtain ⟨y0, y1, y2, y3, y4, -⟩ := hb.cells.f6
  have HB := Lib.hid (hBa.trans (hBb.mono hBa.size))
  clear ha ha2 hb hBa hBb
  have he := He.out
  have hq := Hq.out
  go_wp2_with fail
  refine refCompare_any x.v y.v w2 hx hy _ (fun w3 hB => ?_)
  have hr := HR.out w3 (HB.out.trans (hB.mono HB.out.size))
  clear hB
  go_wp2_with fail
  first | exact hr | exact fin hr rfl
set_option maxRecDepth 100000 in
set_option maxHeartbeats 16000000 in
theorem fMay_any (lo hi : Nat) (l : List Ft) (v : Value) (w : World) (hv : Fts lo hi w v l) (hhi : hi ≤ w.heap.size) (hl : ∀ x ∈ l, x.v.s.length ≤ 9223372036854775807) (R : Ending → World → Prop) (hR : ∀ w', Below w.heap.size w w' → R (.returned (.bool (factsB l))) w') :
    Calls Try.prog 17 #[v] w R := by
  have Hv := Lib.hid hv
  have Hl := Lib.hid hl
  obtain ⟨ao, cap, rfl, hcl, hcm, -, -⟩ := hv.form
  clear hv hl
  go_enter Try.func17, Try.ntmps17
  go_wp2_with fail
  go_loopw [3, 4] (fun t3 _ wr => ∃ k : Nat, k ≤ l.length ∧ t3 = .int .i64 k ∧ (∀ j, j < k → ftOk l j = true) ∧ Below w.heap.size w wr) (fun t3 _ _ => l.length - (intOf t3).toNat)
  case atStart => exact ⟨0, Nat.zero_le _, rfl, fun j h => absurd h (Nat.not_lt_zero _), Below.refl _ _⟩
  case round =>
    obtain ⟨k, hk, rfl, hyes, hB⟩ := hrel
    have Hyes := Lib.hid hyes
    clear hyes
    obtain ⟨wo, ewo⟩ : ∃ x, x = wr := ⟨_, rfl⟩
    subst ewo
    have hz := hB.size
    by_cases hlt : k < l.length
    · obtain ⟨ao', cap', e', -, -, -, hc⟩ := (Sl.below Hv.out ftE_loc hB hhi).form
      injection e' with e1 e2 e3
      subst e1 e3
      obtain ⟨b, off, rfl, hb1, hb2, hcc⟩ := hc k hlt
      obtain ⟨cs, _, hcs, sv, rfl, hsv⟩ := hcc k hlt
      have Hsv := Lib.hid hsv
      obtain ⟨ax, cx, rfl, -, -, -, -⟩ := hsv.form
      obtain ⟨h0, h1, h2, h3, h4, h5⟩ := hcs.f6
      have hbw : b < wo.heap.size := by omega
      have hxl := Hl.out l[k] (List.getElem_mem hlt)
      have Ho : Hid (ftOk l k = (l[k].may && (k == 0 || decide (cmpF (l.getD (k - 1) default) l[k] < 0)))) := Lib.hid (by unfold ftOk; rw [getD_at l _ k hlt])
      have HB := Lib.hid hB
      have kk0 : (0 : Int) ≤ (k : Int) := by omega
      have kkl : (k : Int) < (l.length : Int) := by omega
      clear hcs hB hc hsv
      by_cases hk0 : 0 < k
      · obtain ⟨m, hmk⟩ : ∃ m, k = m + 1 := ⟨k - 1, by omega⟩
        have hml : m < l.length := by omega
        obtain ⟨cs2, _, hcs2, sv2, rfl, hsv2⟩ := hcc m hml
        obtain ⟨ap, cp, rfl, -, -, -, -⟩ := hsv2.form
        obtain ⟨p0, p1, p2, p3, p4, p5⟩ := hcs2.f6
        have hpl := Hl.out l[m] (List.getElem_mem hml)
        have wj : IntKind.i64.wrap ((k : Int) - 1) = (m : Int) := by rw [show (k : Int) - 1 = (m : Int) by omega]; exact wrap_ok (by omega) (by omega)
        have Hj : Hid (l.getD (k - 1) default = l[m]) := Lib.hid (by rw [show k - 1 = m by omega, getD_at l _ m hml])
        have j0 : (0 : Int) ≤ (m : Int) := by omega
        have jl : (m : Int) < (l.length : Int) := by omega
        clear hcs2 hcc hsv2
        generalize l[m] = p at *
        generalize hs : l[k] = x at *
        clear hs hmk
        go_upto_region 4 with fail
        refine wp_region_held_drew (S := fun w' => Below wo.heap.size wo w') (by kernel_rfl) (Below.drew (Below.refl _ _)) (fun hHeld => ?_)
        refine wpAnyH_take (i := 0) (v := .slice (some ⟨b, off, none⟩) l.length cap) rfl (by kernel_rfl) (by kernel_rfl) (by kernel_rfl) (fun _ _ _ h => h) (Or.inl ⟨by rfl, ?_⟩) hHeld ?_
        · intro w' hSw; go_simp
        try simp only [ν1, ν2, ν3, ν4, ν5, ν6, ν7, ν8]
        refine wpAnyH_take (i := 1) (v := .int .i64 ((k : Int))) rfl (by kernel_rfl) (by kernel_rfl) (by kernel_rfl) (fun _ _ _ h => h) (Or.inl ⟨by rfl, ?_⟩) hHeld ?_
        · intro w' hSw; go_simp
        try simp only [ν1, ν2, ν3, ν4, ν5, ν6, ν7, ν8]
        refine wpAnyH_take (i := 2) (v := .pointer (some ⟨b, off + k * 6, none⟩)) rfl (by kernel_rfl) (by kernel_rfl) (by kernel_rfl) (fun _ _ _ h => h) (Or.inl ⟨by rfl, ?_⟩) hHeld ?_
        · intro w' hSw; go_simp
        try simp only [ν1, ν2, ν3, ν4, ν5, ν6, ν7, ν8]
        refine wpAnyH_take (i := 3) (v := .pointer (some ⟨b, off + k * 6, none⟩)) rfl (by kernel_rfl) (by kernel_rfl) (by kernel_rfl) (fun _ _ _ h => h) (Or.inl ⟨by rfl, ?_⟩) hHeld ?_
        · intro w' hSw; go_simp
        try simp only [ν1, ν2, ν3, ν4, ν5, ν6, ν7, ν8]
        refine wpAnyH_take (i := 4) (v := .int .i64 (x.e)) rfl (by kernel_rfl) (by kernel_rfl) (by kernel_rfl) (fun _ _ _ h => h) (Or.inl ⟨by rfl, ?_⟩) hHeld ?_
        · intro w' hSw; have kx := (World.cell?_of_block (hSw.block _ hbw)).trans h0; go_simp
        try simp only [ν1, ν2, ν3, ν4, ν5, ν6, ν7, ν8]
        refine wpAnyH_take (i := 5) (v := .slice (some ⟨b, off, none⟩) l.length cap) rfl (by kernel_rfl) (by kernel_rfl) (by kernel_rfl) (fun _ _ _ h => h) (Or.inl ⟨by rfl, ?_⟩) hHeld ?_
        · intro w' hSw; go_simp
        try simp only [ν1, ν2, ν3, ν4, ν5, ν6, ν7, ν8]
        refine wpAnyH_take (i := 6) (v := .int .i64 ((k : Int))) rfl (by kernel_rfl) (by kernel_rfl) (by kernel_rfl) (fun _ _ _ h => h) (Or.inl ⟨by rfl, ?_⟩) hHeld ?_
        · intro w' hSw; go_simp
        try simp only [ν1, ν2, ν3, ν4, ν5, ν6, ν7, ν8]
        refine wpAnyH_take (i := 7) (v := .pointer (some ⟨b, off + k * 6, none⟩)) rfl (by kernel_rfl) (by kernel_rfl) (by kernel_rfl) (fun _ _ _ h => h) (Or.inl ⟨by rfl, ?_⟩) hHeld ?_
        · intro w' hSw; go_simp
        try simp only [ν1, ν2, ν3, ν4, ν5, ν6, ν7, ν8]
        refine wpAnyH_take (i := 8) (v := .pointer (some ⟨b, off + k * 6 + 1, none⟩)) rfl (by kernel_rfl) (by kernel_rfl) (by kernel_rfl) (fun _ _ _ h => h) (Or.inl ⟨by rfl, ?_⟩) hHeld ?_
        · intro w' hSw; go_simp
        try simp only [ν1, ν2, ν3, ν4, ν5, ν6, ν7, ν8]
        refine wpAnyH_take (i := 9) (v := .int .i64 (x.a)) rfl (by kernel_rfl) (by kernel_rfl) (by kernel_rfl) (fun _ _ _ h => h) (Or.inl ⟨by rfl, ?_⟩) hHeld ?_
        · intro w' hSw; have kx := (World.cell?_of_block (hSw.block _ hbw)).trans h1; go_simp
        try simp only [ν1, ν2, ν3, ν4, ν5, ν6, ν7, ν8]
        refine wpAnyH_take (i := 10) (v := .slice (some ⟨b, off, none⟩) l.length cap) rfl (by kernel_rfl) (by kernel_rfl) (by kernel_rfl) (fun _ _ _ h => h) (Or.inl ⟨by rfl, ?_⟩) hHeld ?_
        · intro w' hSw; go_simp
        try simp only [ν1, ν2, ν3, ν4, ν5, ν6, ν7, ν8]
        refine wpAnyH_take (i := 11) (v := .int .i64 ((k : Int))) rfl (by kernel_rfl) (by kernel_rfl) (by kernel_rfl) (fun _ _ _ h => h) (Or.inl ⟨by rfl, ?_⟩) hHeld ?_
        · intro w' hSw; go_simp
        try simp only [ν1, ν2, ν3, ν4, ν5, ν6, ν7, ν8]
        refine wpAnyH_take (i := 12) (v := .pointer (some ⟨b, off + k * 6, none⟩)) rfl (by kernel_rfl) (by kernel_rfl) (by kernel_rfl) (fun _ _ _ h => h) (Or.inl ⟨by rfl, ?_⟩) hHeld ?_
        · intro w' hSw; go_simp
        try simp only [ν1, ν2, ν3, ν4, ν5, ν6, ν7, ν8]
        refine wpAnyH_take (i := 13) (v := .pointer (some ⟨b, off + k * 6 + 2, none⟩)) rfl (by kernel_rfl) (by kernel_rfl) (by kernel_rfl) (fun _ _ _ h => h) (Or.inl ⟨by rfl, ?_⟩) hHeld ?_
        · intro w' hSw; go_simp
        try simp only [ν1, ν2, ν3, ν4, ν5, ν6, ν7, ν8]
        refine wpAnyH_take (i := 14) (v := .agg #[.int .i64 (x.v.kind), .int .i64 (x.v.n), .string ⟨x.v.s.toArray⟩]) rfl (by kernel_rfl) (by kernel_rfl) (by kernel_rfl) (fun _ _ _ h => h) (Or.inl ⟨by rfl, ?_⟩) hHeld ?_
        · intro w' hSw; have k2 := (World.cell?_of_block (hSw.block _ hbw)).trans h2; have k3 := (World.cell?_of_block (hSw.block _ hbw)).trans h3; have k4 := (World.cell?_of_block (hSw.block _ hbw)).trans h4; go_simp
        try simp only [ν1, ν2, ν3, ν4, ν5, ν6, ν7, ν8]
        refine wpAnyH_take (i := 15) (v := .agg #[.int .i64 (x.e), .int .i64 (x.a), .int .i64 (x.v.kind), .int .i64 (x.v.n), .string ⟨x.v.s.toArray⟩, .int .i64 1, .bool false, .int .i64 0, .int .i64 1]) rfl (by kernel_rfl) (by kernel_rfl) (by kernel_rfl) (fun _ _ _ h => h) (Or.inl ⟨by rfl, ?_⟩) hHeld ?_
        · intro w' hSw; go_simp
        try simp only [ν1, ν2, ν3, ν4, ν5, ν6, ν7, ν8]
        refine wpAnyH_ready (rs := [16]) (by kernel_rfl) (by simp) ?_
        refine allVal (v := .pointer (some ⟨wo.heap.size, 0, none⟩)) (w' := wo.drew.alloc (.cells #[.int .i64 0, .int .i64 0, .int .i64 0, .int .i64 0, .string ⟨#[]⟩, .int .i64 0, .bool false, .int .i64 0, .int .i64 0] 74)) rfl (by kernel_rfl) ?_ (hHeld.alloc hHeld.size _) ?_ AllReadyH.nil
        · go_simp
        try simp only [ν1, ν2, ν3, ν4, ν5, ν6, ν7, ν8]
        have hHeld2 := hHeld.alloc hHeld.size (.cells #[.int .i64 0, .int .i64 0, .int .i64 0, .int .i64 0, .string ⟨#[]⟩, .int .i64 0, .bool false, .int .i64 0, .int .i64 0] 74)
        have hHeld3 := hHeld.alloc hHeld.size (.cells #[.int .i64 x.e, .int .i64 x.a, .int .i64 x.v.kind, .int .i64 x.v.n, .string ⟨x.v.s.toArray⟩, .int .i64 1, .bool false, .int .i64 0, .int .i64 1] 74)
        clear hHeld
        have hHeld := hHeld2
        clear hHeld2
        refine wpAnyH_ready (rs := [17]) (by kernel_rfl) (by simp) ?_
        refine allSkip (w' := wo.drew.alloc (.cells #[.int .i64 x.e, .int .i64 x.a, .int .i64 x.v.kind, .int .i64 x.v.n, .string ⟨x.v.s.toArray⟩, .int .i64 1, .bool false, .int .i64 0, .int .i64 1] 74)) rfl (by kernel_rfl) ?_ hHeld3 ?_ AllReadyH.nil
        · go_simp
        try simp only [ν1, ν2, ν3, ν4, ν5, ν6, ν7, ν8]
        have hbk := Blk.new wo.drew [.int .i64 x.e, .int .i64 x.a, .int .i64 x.v.kind, .int .i64 x.v.n, .string ⟨x.v.s.toArray⟩, .int .i64 1, .bool false, .int .i64 0, .int .i64 1] 74 (n := wo.heap.size) rfl
        have hHeld := hHeld3
        have hal := hHeld3
        clear hHeld3
        refine wpAnyH_done (by kernel_rfl) ?_ _
        clear hHeld
        generalize wo.drew.alloc (.cells #[.int .i64 x.e, .int .i64 x.a, .int .i64 x.v.kind, .int .i64 x.v.n, .string ⟨x.v.s.toArray⟩, .int .i64 1, .bool false, .int .i64 0, .int .i64 1] 74) = wa at *
        obtain ⟨y0, y1, y2, y3, y4, y5, y6, y7, y8⟩ := hbk.cells.c9
        have hy1 := hbk.lt
        have hba : b < wa.heap.size := Nat.lt_of_lt_of_le hbw hal.size
        have g0 := (World.cell?_of_block (hal.block b hbw)).trans h0
        have g1 := (World.cell?_of_block (hal.block b hbw)).trans h1
        have g2 := (World.cell?_of_block (hal.block b hbw)).trans h2
        have g3 := (World.cell?_of_block (hal.block b hbw)).trans h3
        have g4 := (World.cell?_of_block (hal.block b hbw)).trans h4
        have g5 := (World.cell?_of_block (hal.block b hbw)).trans h5
        have q0 := (World.cell?_of_block (hal.block b hbw)).trans p0
        have q1 := (World.cell?_of_block (hal.block b hbw)).trans p1
        have q2 := (World.cell?_of_block (hal.block b hbw)).trans p2
        have q3 := (World.cell?_of_block (hal.block b hbw)).trans p3
        have q4 := (World.cell?_of_block (hal.block b hbw)).trans p4
        have q5 := (World.cell?_of_block (hal.block b hbw)).trans p5
        clear p0 p1 p2 p3 p4 p5
        have HBa := Lib.hid (HB.out.trans (hal.mono hz))
        have hha : hi ≤ wa.heap.size := Nat.le_trans hhi HBa.out.size
        have hSp : Hid (∀ w', Below wa.heap.size wa w' → Spans lo hi w' (.slice ax x.sp.length cx) x.sp) := Lib.hid (fun w' h => Sl.below (Sl.below Hsv.out Sp.loc hal (by omega)) Sp.loc h hha)
        clear hal hbk h0 h1 h2 h3 h4 h5 Hsv
        go_upto_region 5 with fail
        cases hmd : mayD x.e x.a x.v
        ·
          refine wp_region_held_drew (S := fun w' => Below wa.heap.size wa w') (by kernel_rfl) (Below.drew (Below.refl _ _)) (fun hHeld => ?_)
          refine wpAnyH_take (i := 0) (v := .agg #[.int .i64 (x.e), .int .i64 (x.a), .int .i64 (x.v.kind), .int .i64 (x.v.n), .string ⟨x.v.s.toArray⟩, .int .i64 1, .bool false, .int .i64 0, .int .i64 1]) rfl (by kernel_rfl) (by kernel_rfl) (by kernel_rfl) (fun _ _ _ h => h) (Or.inl ⟨by rfl, ?_⟩) hHeld ?_
          · intro w' hSw; have k0 := (World.cell?_of_block (hSw.block _ hy1)).trans y0; have k1 := (World.cell?_of_block (hSw.block _ hy1)).trans y1; have k2 := (World.cell?_of_block (hSw.block _ hy1)).trans y2; have k3 := (World.cell?_of_block (hSw.block _ hy1)).trans y3; have k4 := (World.cell?_of_block (hSw.block _ hy1)).trans y4; have k5 := (World.cell?_of_block (hSw.block _ hy1)).trans y5; have k6 := (World.cell?_of_block (hSw.block _ hy1)).trans y6; have k7 := (World.cell?_of_block (hSw.block _ hy1)).trans y7; have k8 := (World.cell?_of_block (hSw.block _ hy1)).trans y8; go_simp
          try simp only [ν1, ν2, ν3, ν4, ν5, ν6, ν7, ν8]
          refine wpAnyH_ready (rs := [1]) (by kernel_rfl) (by simp) ?_
          refine allCall (f := 29) (args := #[.agg #[.int .i64 (x.e), .int .i64 (x.a), .int .i64 (x.v.kind), .int .i64 (x.v.n), .string ⟨x.v.s.toArray⟩, .int .i64 1, .bool false, .int .i64 0, .int .i64 1]]) rfl (by kernel_rfl) (by kernel_rfl) ?_ AllReadyH.nil
          refine dMay_any x.e x.a x.v wa.drew hxl _ (fun wq1 hB => ?_)
          rw [hmd]
          refine ⟨_, rfl, hHeld.trans (hB.mono hHeld.size), ?_⟩
          have hHeld2 := hHeld.trans (hB.mono hHeld.size)
          clear hHeld
          have hHeld := hHeld2
          clear hHeld2
          clear hB
          try simp only [ν1, ν2, ν3, ν4, ν5, ν6, ν7, ν8]
          refine wpAnyH_take (i := 2) (v := .bool true) rfl (by kernel_rfl) (by kernel_rfl) (by kernel_rfl) (fun _ _ _ h => h) (Or.inl ⟨by rfl, ?_⟩) hHeld ?_
          · intro w' hSw; go_simp <;> omega
          try simp only [ν1, ν2, ν3, ν4, ν5, ν6, ν7, ν8]
          refine wpAnyH_take (i := 3) (v := .bool true) rfl (by kernel_rfl) (by kernel_rfl) (by kernel_rfl) (fun _ _ _ h => h) (Or.inl ⟨by rfl, ?_⟩) hHeld ?_
          · intro w' hSw; go_simp <;> omega
          try simp only [ν1, ν2, ν3, ν4, ν5, ν6, ν7, ν8]
          refine wpAnyH_take (i := 4) (v := undef) rfl (by kernel_rfl) (by kernel_rfl) (by kernel_rfl) (fun _ _ _ h => h) (Or.inr ⟨by kernel_rfl, rfl⟩) hHeld ?_
          try simp only [ν1, ν2, ν3, ν4, ν5, ν6, ν7, ν8]
          refine wpAnyH_take (i := 5) (v := undef) rfl (by kernel_rfl) (by kernel_rfl) (by kernel_rfl) (fun _ _ _ h => h) (Or.inr ⟨by kernel_rfl, rfl⟩) hHeld ?_
          try simp only [ν1, ν2, ν3, ν4, ν5, ν6, ν7, ν8]
          refine wpAnyH_take (i := 6) (v := undef) rfl (by kernel_rfl) (by kernel_rfl) (by kernel_rfl) (fun _ _ _ h => h) (Or.inr ⟨by kernel_rfl, rfl⟩) hHeld ?_
          try simp only [ν1, ν2, ν3, ν4, ν5, ν6, ν7, ν8]
          refine wpAnyH_take (i := 7) (v := undef) rfl (by kernel_rfl) (by kernel_rfl) (by kernel_rfl) (fun _ _ _ h => h) (Or.inr ⟨by kernel_rfl, rfl⟩) hHeld ?_
          try simp only [ν1, ν2, ν3, ν4, ν5, ν6, ν7, ν8]
          refine wpAnyH_take (i := 8) (v := undef) rfl (by kernel_rfl) (by kernel_rfl) (by kernel_rfl) (fun _ _ _ h => h) (Or.inr ⟨by kernel_rfl, rfl⟩) hHeld ?_
          try simp only [ν1, ν2, ν3, ν4, ν5, ν6, ν7, ν8]
          refine wpAnyH_take (i := 9) (v := undef) rfl (by kernel_rfl) (by kernel_rfl) (by kernel_rfl) (fun _ _ _ h => h) (Or.inr ⟨by kernel_rfl, rfl⟩) hHeld ?_
          try simp only [ν1, ν2, ν3, ν4, ν5, ν6, ν7, ν8]
          refine wpAnyH_take (i := 10) (v := undef) rfl (by kernel_rfl) (by kernel_rfl) (by kernel_rfl) (fun _ _ _ h => h) (Or.inr ⟨by kernel_rfl, rfl⟩) hHeld ?_
          try simp only [ν1, ν2, ν3, ν4, ν5, ν6, ν7, ν8]
          refine wpAnyH_take (i := 11) (v := .bool true) rfl (by kernel_rfl) (by kernel_rfl) (by kernel_rfl) (fun _ _ _ h => h) (Or.inl ⟨by rfl, ?_⟩) hHeld ?_
          · intro w' hSw; go_simp <;> omega
          try simp only [ν1, ν2, ν3, ν4, ν5, ν6, ν7, ν8]
          refine wpAnyH_take (i := 12) (v := .bool true) rfl (by kernel_rfl) (by kernel_rfl) (by kernel_rfl) (fun _ _ _ h => h) (Or.inl ⟨by rfl, ?_⟩) hHeld ?_
          · intro w' hSw; go_simp <;> omega
          try simp only [ν1, ν2, ν3, ν4, ν5, ν6, ν7, ν8]
          refine wpAnyH_take (i := 13) (v := undef) rfl (by kernel_rfl) (by kernel_rfl) (by kernel_rfl) (fun _ _ _ h => h) (Or.inr ⟨by kernel_rfl, rfl⟩) hHeld ?_
          try simp only [ν1, ν2, ν3, ν4, ν5, ν6, ν7, ν8]
          refine wpAnyH_take (i := 14) (v := undef) rfl (by kernel_rfl) (by kernel_rfl) (by kernel_rfl) (fun _ _ _ h => h) (Or.inr ⟨by kernel_rfl, rfl⟩) hHeld ?_
          try simp only [ν1, ν2, ν3, ν4, ν5, ν6, ν7, ν8]
          refine wpAnyH_take (i := 15) (v := undef) rfl (by kernel_rfl) (by kernel_rfl) (by kernel_rfl) (fun _ _ _ h => h) (Or.inr ⟨by kernel_rfl, rfl⟩) hHeld ?_
          try simp only [ν1, ν2, ν3, ν4, ν5, ν6, ν7, ν8]
          refine wpAnyH_take (i := 16) (v := undef) rfl (by kernel_rfl) (by kernel_rfl) (by kernel_rfl) (fun _ _ _ h => h) (Or.inr ⟨by kernel_rfl, rfl⟩) hHeld ?_
          try simp only [ν1, ν2, ν3, ν4, ν5, ν6, ν7, ν8]
          refine wpAnyH_take (i := 17) (v := undef) rfl (by kernel_rfl) (by kernel_rfl) (by kernel_rfl) (fun _ _ _ h => h) (Or.inr ⟨by kernel_rfl, rfl⟩) hHeld ?_
          try simp only [ν1, ν2, ν3, ν4, ν5, ν6, ν7, ν8]
          refine wpAnyH_take (i := 18) (v := undef) rfl (by kernel_rfl) (by kernel_rfl) (by kernel_rfl) (fun _ _ _ h => h) (Or.inr ⟨by kernel_rfl, rfl⟩) hHeld ?_
          try simp only [ν1, ν2, ν3, ν4, ν5, ν6, ν7, ν8]
          refine wpAnyH_take (i := 19) (v := undef) rfl (by kernel_rfl) (by kernel_rfl) (by kernel_rfl) (fun _ _ _ h => h) (Or.inr ⟨by kernel_rfl, rfl⟩) hHeld ?_
          try simp only [ν1, ν2, ν3, ν4, ν5, ν6, ν7, ν8]
          refine wpAnyH_take (i := 20) (v := .bool true) rfl (by kernel_rfl) (by kernel_rfl) (by kernel_rfl) (fun _ _ _ h => h) (Or.inl ⟨by rfl, ?_⟩) hHeld ?_
          · intro w' hSw; go_simp <;> omega
          try simp only [ν1, ν2, ν3, ν4, ν5, ν6, ν7, ν8]
          refine wpAnyH_take (i := 21) (v := .bool true) rfl (by kernel_rfl) (by kernel_rfl) (by kernel_rfl) (fun _ _ _ h => h) (Or.inl ⟨by rfl, ?_⟩) hHeld ?_
          · intro w' hSw; go_simp <;> omega
          try simp only [ν1, ν2, ν3, ν4, ν5, ν6, ν7, ν8]
          refine wpAnyH_take (i := 22) (v := undef) rfl (by kernel_rfl) (by kernel_rfl) (by kernel_rfl) (fun _ _ _ h => h) (Or.inr ⟨by kernel_rfl, rfl⟩) hHeld ?_
          try simp only [ν1, ν2, ν3, ν4, ν5, ν6, ν7, ν8]
          refine wpAnyH_take (i := 23) (v := undef) rfl (by kernel_rfl) (by kernel_rfl) (by kernel_rfl) (fun _ _ _ h => h) (Or.inr ⟨by kernel_rfl, rfl⟩) hHeld ?_
          try simp only [ν1, ν2, ν3, ν4, ν5, ν6, ν7, ν8]
          refine wpAnyH_take (i := 24) (v := undef) rfl (by kernel_rfl) (by kernel_rfl) (by kernel_rfl) (fun _ _ _ h => h) (Or.inr ⟨by kernel_rfl, rfl⟩) hHeld ?_
          try simp only [ν1, ν2, ν3, ν4, ν5, ν6, ν7, ν8]
          refine wpAnyH_take (i := 25) (v := undef) rfl (by kernel_rfl) (by kernel_rfl) (by kernel_rfl) (fun _ _ _ h => h) (Or.inr ⟨by kernel_rfl, rfl⟩) hHeld ?_
          try simp only [ν1, ν2, ν3, ν4, ν5, ν6, ν7, ν8]
          refine wpAnyH_take (i := 26) (v := undef) rfl (by kernel_rfl) (by kernel_rfl) (by kernel_rfl) (fun _ _ _ h => h) (Or.inr ⟨by kernel_rfl, rfl⟩) hHeld ?_
          try simp only [ν1, ν2, ν3, ν4, ν5, ν6, ν7, ν8]
          refine wpAnyH_take (i := 27) (v := undef) rfl (by kernel_rfl) (by kernel_rfl) (by kernel_rfl) (fun _ _ _ h => h) (Or.inr ⟨by kernel_rfl, rfl⟩) hHeld ?_
          try simp only [ν1, ν2, ν3, ν4, ν5, ν6, ν7, ν8]
          refine wpAnyH_take (i := 28) (v := undef) rfl (by kernel_rfl) (by kernel_rfl) (by kernel_rfl) (fun _ _ _ h => h) (Or.inr ⟨by kernel_rfl, rfl⟩) hHeld ?_
          try simp only [ν1, ν2, ν3, ν4, ν5, ν6, ν7, ν8]
          refine wpAnyH_take (i := 29) (v := undef) rfl (by kernel_rfl) (by kernel_rfl) (by kernel_rfl) (fun _ _ _ h => h) (Or.inr ⟨by kernel_rfl, rfl⟩) hHeld ?_
          try simp only [ν1, ν2, ν3, ν4, ν5, ν6, ν7, ν8]
          refine wpAnyH_take (i := 30) (v := undef) rfl (by kernel_rfl) (by kernel_rfl) (by kernel_rfl) (fun _ _ _ h => h) (Or.inr ⟨by kernel_rfl, rfl⟩) hHeld ?_
          try simp only [ν1, ν2, ν3, ν4, ν5, ν6, ν7, ν8]
          refine wpAnyH_take (i := 31) (v := undef) rfl (by kernel_rfl) (by kernel_rfl) (by kernel_rfl) (fun _ _ _ h => h) (Or.inr ⟨by kernel_rfl, rfl⟩) hHeld ?_
          try simp only [ν1, ν2, ν3, ν4, ν5, ν6, ν7, ν8]
          refine wpAnyH_take (i := 32) (v := undef) rfl (by kernel_rfl) (by kernel_rfl) (by kernel_rfl) (fun _ _ _ h => h) (Or.inr ⟨by kernel_rfl, rfl⟩) hHeld ?_
          try simp only [ν1, ν2, ν3, ν4, ν5, ν6, ν7, ν8]
          refine wpAnyH_take (i := 33) (v := undef) rfl (by kernel_rfl) (by kernel_rfl) (by kernel_rfl) (fun _ _ _ h => h) (Or.inr ⟨by kernel_rfl, rfl⟩) hHeld ?_
          try simp only [ν1, ν2, ν3, ν4, ν5, ν6, ν7, ν8]
          refine wpAnyH_take (i := 34) (v := undef) rfl (by kernel_rfl) (by kernel_rfl) (by kernel_rfl) (fun _ _ _ h => h) (Or.inr ⟨by kernel_rfl, rfl⟩) hHeld ?_
          try simp only [ν1, ν2, ν3, ν4, ν5, ν6, ν7, ν8]
          refine wpAnyH_take (i := 35) (v := undef) rfl (by kernel_rfl) (by kernel_rfl) (by kernel_rfl) (fun _ _ _ h => h) (Or.inr ⟨by kernel_rfl, rfl⟩) hHeld ?_
          try simp only [ν1, ν2, ν3, ν4, ν5, ν6, ν7, ν8]
          refine wpAnyH_take (i := 36) (v := undef) rfl (by kernel_rfl) (by kernel_rfl) (by kernel_rfl) (fun _ _ _ h => h) (Or.inr ⟨by kernel_rfl, rfl⟩) hHeld ?_
          try simp only [ν1, ν2, ν3, ν4, ν5, ν6, ν7, ν8]
          refine wpAnyH_take (i := 37) (v := .bool true) rfl (by kernel_rfl) (by kernel_rfl) (by kernel_rfl) (fun _ _ _ h => h) (Or.inl ⟨by rfl, ?_⟩) hHeld ?_
          · intro w' hSw; go_simp <;> omega
          try simp only [ν1, ν2, ν3, ν4, ν5, ν6, ν7, ν8]
          have hHeld0 := hHeld
          refine wpAnyH_done (by kernel_rfl) ?_ _
          clear hHeld
          have HB7 := Lib.hid (HBa.out.trans (hHeld0.mono HBa.out.size))
          clear hHeld0
          go_wp2_with fail
          exact fin (hR _ HB7.out) (show Value.bool _ = Value.bool _ by rw [factsB_false hlt (by rw [Ho.out, may_false1 hmd]; rfl)])
        by_cases hne : x.sp.length = 0
        · have k7 : (x.sp.length : Int) = 0 := by omega
          refine wp_region_held_drew (S := fun w' => Below wa.heap.size wa w') (by kernel_rfl) (Below.drew (Below.refl _ _)) (fun hHeld => ?_)
          refine wpAnyH_take (i := 0) (v := .agg #[.int .i64 (x.e), .int .i64 (x.a), .int .i64 (x.v.kind), .int .i64 (x.v.n), .string ⟨x.v.s.toArray⟩, .int .i64 1, .bool false, .int .i64 0, .int .i64 1]) rfl (by kernel_rfl) (by kernel_rfl) (by kernel_rfl) (fun _ _ _ h => h) (Or.inl ⟨by rfl, ?_⟩) hHeld ?_
          · intro w' hSw; have k0 := (World.cell?_of_block (hSw.block _ hy1)).trans y0; have k1 := (World.cell?_of_block (hSw.block _ hy1)).trans y1; have k2 := (World.cell?_of_block (hSw.block _ hy1)).trans y2; have k3 := (World.cell?_of_block (hSw.block _ hy1)).trans y3; have k4 := (World.cell?_of_block (hSw.block _ hy1)).trans y4; have k5 := (World.cell?_of_block (hSw.block _ hy1)).trans y5; have k6 := (World.cell?_of_block (hSw.block _ hy1)).trans y6; have k7 := (World.cell?_of_block (hSw.block _ hy1)).trans y7; have k8 := (World.cell?_of_block (hSw.block _ hy1)).trans y8; go_simp
          try simp only [ν1, ν2, ν3, ν4, ν5, ν6, ν7, ν8]
          refine wpAnyH_ready (rs := [1]) (by kernel_rfl) (by simp) ?_
          refine allCall (f := 29) (args := #[.agg #[.int .i64 (x.e), .int .i64 (x.a), .int .i64 (x.v.kind), .int .i64 (x.v.n), .string ⟨x.v.s.toArray⟩, .int .i64 1, .bool false, .int .i64 0, .int .i64 1]]) rfl (by kernel_rfl) (by kernel_rfl) ?_ AllReadyH.nil
          refine dMay_any x.e x.a x.v wa.drew hxl _ (fun wq1 hB => ?_)
          rw [hmd]
          refine ⟨_, rfl, hHeld.trans (hB.mono hHeld.size), ?_⟩
          have hHeld2 := hHeld.trans (hB.mono hHeld.size)
          clear hHeld
          have hHeld := hHeld2
          clear hHeld2
          clear hB
          try simp only [ν1, ν2, ν3, ν4, ν5, ν6, ν7, ν8]
          refine wpAnyH_take (i := 2) (v := .bool false) rfl (by kernel_rfl) (by kernel_rfl) (by kernel_rfl) (fun _ _ _ h => h) (Or.inl ⟨by rfl, ?_⟩) hHeld ?_
          · intro w' hSw; go_simp <;> omega
          try simp only [ν1, ν2, ν3, ν4, ν5, ν6, ν7, ν8]
          refine wpAnyH_take (i := 3) (v := .bool false) rfl (by kernel_rfl) (by kernel_rfl) (by kernel_rfl) (fun _ _ _ h => h) (Or.inl ⟨by rfl, ?_⟩) hHeld ?_
          · intro w' hSw; go_simp <;> omega
          try simp only [ν1, ν2, ν3, ν4, ν5, ν6, ν7, ν8]
          refine wpAnyH_take (i := 4) (v := .slice (some ⟨b, off, none⟩) l.length cap) rfl (by kernel_rfl) (by kernel_rfl) (by kernel_rfl) (fun _ _ _ h => h) (Or.inl ⟨by rfl, ?_⟩) hHeld ?_
          · intro w' hSw; go_simp <;> omega
          try simp only [ν1, ν2, ν3, ν4, ν5, ν6, ν7, ν8]
          refine wpAnyH_take (i := 5) (v := .int .i64 ((k : Int))) rfl (by kernel_rfl) (by kernel_rfl) (by kernel_rfl) (fun _ _ _ h => h) (Or.inl ⟨by rfl, ?_⟩) hHeld ?_
          · intro w' hSw; go_simp <;> omega
          try simp only [ν1, ν2, ν3, ν4, ν5, ν6, ν7, ν8]
          refine wpAnyH_take (i := 6) (v := .pointer (some ⟨b, off + k * 6, none⟩)) rfl (by kernel_rfl) (by kernel_rfl) (by kernel_rfl) (fun _ _ _ h => h) (Or.inl ⟨by rfl, ?_⟩) hHeld ?_
          · intro w' hSw; go_simp <;> omega
          try simp only [ν1, ν2, ν3, ν4, ν5, ν6, ν7, ν8]
          refine wpAnyH_take (i := 7) (v := .pointer (some ⟨b, off + k * 6 + 5, none⟩)) rfl (by kernel_rfl) (by kernel_rfl) (by kernel_rfl) (fun _ _ _ h => h) (Or.inl ⟨by rfl, ?_⟩) hHeld ?_
          · intro w' hSw; go_simp <;> omega
          try simp only [ν1, ν2, ν3, ν4, ν5, ν6, ν7, ν8]
          refine wpAnyH_take (i := 8) (v := .slice ax x.sp.length cx) rfl (by kernel_rfl) (by kernel_rfl) (by kernel_rfl) (fun _ _ _ h => h) (Or.inl ⟨by rfl, ?_⟩) hHeld ?_
          · intro w' hSw; have kx := (World.cell?_of_block (hSw.block _ hba)).trans g5; go_simp
          try simp only [ν1, ν2, ν3, ν4, ν5, ν6, ν7, ν8]
          refine wpAnyH_take (i := 9) (v := .int .i64 ((x.sp.length : Int))) rfl (by kernel_rfl) (by kernel_rfl) (by kernel_rfl) (fun _ _ _ h => h) (Or.inl ⟨by rfl, ?_⟩) hHeld ?_
          · intro w' hSw; go_simp <;> omega
          try simp only [ν1, ν2, ν3, ν4, ν5, ν6, ν7, ν8]
          refine wpAnyH_take (i := 10) (v := .bool true) rfl (by kernel_rfl) (by kernel_rfl) (by kernel_rfl) (fun _ _ _ h => h) (Or.inl ⟨by rfl, ?_⟩) hHeld ?_
          · intro w' hSw; go_simp <;> omega
          try simp only [ν1, ν2, ν3, ν4, ν5, ν6, ν7, ν8]
          refine wpAnyH_take (i := 11) (v := .bool true) rfl (by kernel_rfl) (by kernel_rfl) (by kernel_rfl) (fun _ _ _ h => h) (Or.inl ⟨by rfl, ?_⟩) hHeld ?_
          · intro w' hSw; go_simp <;> omega
          try simp only [ν1, ν2, ν3, ν4, ν5, ν6, ν7, ν8]
          refine wpAnyH_take (i := 12) (v := .bool true) rfl (by kernel_rfl) (by kernel_rfl) (by kernel_rfl) (fun _ _ _ h => h) (Or.inl ⟨by rfl, ?_⟩) hHeld ?_
          · intro w' hSw; go_simp <;> omega
          try simp only [ν1, ν2, ν3, ν4, ν5, ν6, ν7, ν8]
          refine wpAnyH_take (i := 13) (v := undef) rfl (by kernel_rfl) (by kernel_rfl) (by kernel_rfl) (fun _ _ _ h => h) (Or.inr ⟨by kernel_rfl, rfl⟩) hHeld ?_
          try simp only [ν1, ν2, ν3, ν4, ν5, ν6, ν7, ν8]
          refine wpAnyH_take (i := 14) (v := undef) rfl (by kernel_rfl) (by kernel_rfl) (by kernel_rfl) (fun _ _ _ h => h) (Or.inr ⟨by kernel_rfl, rfl⟩) hHeld ?_
          try simp only [ν1, ν2, ν3, ν4, ν5, ν6, ν7, ν8]
          refine wpAnyH_take (i := 15) (v := undef) rfl (by kernel_rfl) (by kernel_rfl) (by kernel_rfl) (fun _ _ _ h => h) (Or.inr ⟨by kernel_rfl, rfl⟩) hHeld ?_
          try simp only [ν1, ν2, ν3, ν4, ν5, ν6, ν7, ν8]
          refine wpAnyH_take (i := 16) (v := undef) rfl (by kernel_rfl) (by kernel_rfl) (by kernel_rfl) (fun _ _ _ h => h) (Or.inr ⟨by kernel_rfl, rfl⟩) hHeld ?_
          try simp only [ν1, ν2, ν3, ν4, ν5, ν6, ν7, ν8]
          refine wpAnyH_take (i := 17) (v := undef) rfl (by kernel_rfl) (by kernel_rfl) (by kernel_rfl) (fun _ _ _ h => h) (Or.inr ⟨by kernel_rfl, rfl⟩) hHeld ?_
          try simp only [ν1, ν2, ν3, ν4, ν5, ν6, ν7, ν8]
          refine wpAnyH_take (i := 18) (v := undef) rfl (by kernel_rfl) (by kernel_rfl) (by kernel_rfl) (fun _ _ _ h => h) (Or.inr ⟨by kernel_rfl, rfl⟩) hHeld ?_
          try simp only [ν1, ν2, ν3, ν4, ν5, ν6, ν7, ν8]
          refine wpAnyH_take (i := 19) (v := undef) rfl (by kernel_rfl) (by kernel_rfl) (by kernel_rfl) (fun _ _ _ h => h) (Or.inr ⟨by kernel_rfl, rfl⟩) hHeld ?_
          try simp only [ν1, ν2, ν3, ν4, ν5, ν6, ν7, ν8]
          refine wpAnyH_take (i := 20) (v := .bool true) rfl (by kernel_rfl) (by kernel_rfl) (by kernel_rfl) (fun _ _ _ h => h) (Or.inl ⟨by rfl, ?_⟩) hHeld ?_
          · intro w' hSw; go_simp <;> omega
          try simp only [ν1, ν2, ν3, ν4, ν5, ν6, ν7, ν8]
          refine wpAnyH_take (i := 21) (v := .bool true) rfl (by kernel_rfl) (by kernel_rfl) (by kernel_rfl) (fun _ _ _ h => h) (Or.inl ⟨by rfl, ?_⟩) hHeld ?_
          · intro w' hSw; go_simp <;> omega
          try simp only [ν1, ν2, ν3, ν4, ν5, ν6, ν7, ν8]
          refine wpAnyH_take (i := 22) (v := undef) rfl (by kernel_rfl) (by kernel_rfl) (by kernel_rfl) (fun _ _ _ h => h) (Or.inr ⟨by kernel_rfl, rfl⟩) hHeld ?_
          try simp only [ν1, ν2, ν3, ν4, ν5, ν6, ν7, ν8]
          refine wpAnyH_take (i := 23) (v := undef) rfl (by kernel_rfl) (by kernel_rfl) (by kernel_rfl) (fun _ _ _ h => h) (Or.inr ⟨by kernel_rfl, rfl⟩) hHeld ?_
          try simp only [ν1, ν2, ν3, ν4, ν5, ν6, ν7, ν8]
          refine wpAnyH_take (i := 24) (v := undef) rfl (by kernel_rfl) (by kernel_rfl) (by kernel_rfl) (fun _ _ _ h => h) (Or.inr ⟨by kernel_rfl, rfl⟩) hHeld ?_
          try simp only [ν1, ν2, ν3, ν4, ν5, ν6, ν7, ν8]
          refine wpAnyH_take (i := 25) (v := undef) rfl (by kernel_rfl) (by kernel_rfl) (by kernel_rfl) (fun _ _ _ h => h) (Or.inr ⟨by kernel_rfl, rfl⟩) hHeld ?_
          try simp only [ν1, ν2, ν3, ν4, ν5, ν6, ν7, ν8]
          refine wpAnyH_take (i := 26) (v := undef) rfl (by kernel_rfl) (by kernel_rfl) (by kernel_rfl) (fun _ _ _ h => h) (Or.inr ⟨by kernel_rfl, rfl⟩) hHeld ?_
          try simp only [ν1, ν2, ν3, ν4, ν5, ν6, ν7, ν8]
          refine wpAnyH_take (i := 27) (v := undef) rfl (by kernel_rfl) (by kernel_rfl) (by kernel_rfl) (fun _ _ _ h => h) (Or.inr ⟨by kernel_rfl, rfl⟩) hHeld ?_
          try simp only [ν1, ν2, ν3, ν4, ν5, ν6, ν7, ν8]
          refine wpAnyH_take (i := 28) (v := undef) rfl (by kernel_rfl) (by kernel_rfl) (by kernel_rfl) (fun _ _ _ h => h) (Or.inr ⟨by kernel_rfl, rfl⟩) hHeld ?_
          try simp only [ν1, ν2, ν3, ν4, ν5, ν6, ν7, ν8]
          refine wpAnyH_take (i := 29) (v := undef) rfl (by kernel_rfl) (by kernel_rfl) (by kernel_rfl) (fun _ _ _ h => h) (Or.inr ⟨by kernel_rfl, rfl⟩) hHeld ?_
          try simp only [ν1, ν2, ν3, ν4, ν5, ν6, ν7, ν8]
          refine wpAnyH_take (i := 30) (v := undef) rfl (by kernel_rfl) (by kernel_rfl) (by kernel_rfl) (fun _ _ _ h => h) (Or.inr ⟨by kernel_rfl, rfl⟩) hHeld ?_
          try simp only [ν1, ν2, ν3, ν4, ν5, ν6, ν7, ν8]
          refine wpAnyH_take (i := 31) (v := undef) rfl (by kernel_rfl) (by kernel_rfl) (by kernel_rfl) (fun _ _ _ h => h) (Or.inr ⟨by kernel_rfl, rfl⟩) hHeld ?_
          try simp only [ν1, ν2, ν3, ν4, ν5, ν6, ν7, ν8]
          refine wpAnyH_take (i := 32) (v := undef) rfl (by kernel_rfl) (by kernel_rfl) (by kernel_rfl) (fun _ _ _ h => h) (Or.inr ⟨by kernel_rfl, rfl⟩) hHeld ?_
          try simp only [ν1, ν2, ν3, ν4, ν5, ν6, ν7, ν8]
          refine wpAnyH_take (i := 33) (v := undef) rfl (by kernel_rfl) (by kernel_rfl) (by kernel_rfl) (fun _ _ _ h => h) (Or.inr ⟨by kernel_rfl, rfl⟩) hHeld ?_
          try simp only [ν1, ν2, ν3, ν4, ν5, ν6, ν7, ν8]
          refine wpAnyH_take (i := 34) (v := undef) rfl (by kernel_rfl) (by kernel_rfl) (by kernel_rfl) (fun _ _ _ h => h) (Or.inr ⟨by kernel_rfl, rfl⟩) hHeld ?_
          try simp only [ν1, ν2, ν3, ν4, ν5, ν6, ν7, ν8]
          refine wpAnyH_take (i := 35) (v := undef) rfl (by kernel_rfl) (by kernel_rfl) (by kernel_rfl) (fun _ _ _ h => h) (Or.inr ⟨by kernel_rfl, rfl⟩) hHeld ?_
          try simp only [ν1, ν2, ν3, ν4, ν5, ν6, ν7, ν8]
          refine wpAnyH_take (i := 36) (v := undef) rfl (by kernel_rfl) (by kernel_rfl) (by kernel_rfl) (fun _ _ _ h => h) (Or.inr ⟨by kernel_rfl, rfl⟩) hHeld ?_
          try simp only [ν1, ν2, ν3, ν4, ν5, ν6, ν7, ν8]
          refine wpAnyH_take (i := 37) (v := .bool true) rfl (by kernel_rfl) (by kernel_rfl) (by kernel_rfl) (fun _ _ _ h => h) (Or.inl ⟨by rfl, ?_⟩) hHeld ?_
          · intro w' hSw; go_simp <;> omega
          try simp only [ν1, ν2, ν3, ν4, ν5, ν6, ν7, ν8]
          have hHeld0 := hHeld
          refine wpAnyH_done (by kernel_rfl) ?_ _
          clear hHeld
          have HB7 := Lib.hid (HBa.out.trans (hHeld0.mono HBa.out.size))
          clear hHeld0
          go_wp2_with fail
          exact fin (hR _ HB7.out) (show Value.bool _ = Value.bool _ by rw [factsB_false hlt (by rw [Ho.out, may_false2 hne]; rfl)])
        have k7 : ¬ (x.sp.length : Int) = 0 := by omega
        cases hst : setB x.sp
        ·
          refine wp_region_held_drew (S := fun w' => Below wa.heap.size wa w') (by kernel_rfl) (Below.drew (Below.refl _ _)) (fun hHeld => ?_)
          refine wpAnyH_take (i := 0) (v := .agg #[.int .i64 (x.e), .int .i64 (x.a), .int .i64 (x.v.kind), .int .i64 (x.v.n), .string ⟨x.v.s.toArray⟩, .int .i64 1, .bool false, .int .i64 0, .int .i64 1]) rfl (by kernel_rfl) (by kernel_rfl) (by kernel_rfl) (fun _ _ _ h => h) (Or.inl ⟨by rfl, ?_⟩) hHeld ?_
          · intro w' hSw; have k0 := (World.cell?_of_block (hSw.block _ hy1)).trans y0; have k1 := (World.cell?_of_block (hSw.block _ hy1)).trans y1; have k2 := (World.cell?_of_block (hSw.block _ hy1)).trans y2; have k3 := (World.cell?_of_block (hSw.block _ hy1)).trans y3; have k4 := (World.cell?_of_block (hSw.block _ hy1)).trans y4; have k5 := (World.cell?_of_block (hSw.block _ hy1)).trans y5; have k6 := (World.cell?_of_block (hSw.block _ hy1)).trans y6; have k7 := (World.cell?_of_block (hSw.block _ hy1)).trans y7; have k8 := (World.cell?_of_block (hSw.block _ hy1)).trans y8; go_simp
          try simp only [ν1, ν2, ν3, ν4, ν5, ν6, ν7, ν8]
          refine wpAnyH_ready (rs := [1]) (by kernel_rfl) (by simp) ?_
          refine allCall (f := 29) (args := #[.agg #[.int .i64 (x.e), .int .i64 (x.a), .int .i64 (x.v.kind), .int .i64 (x.v.n), .string ⟨x.v.s.toArray⟩, .int .i64 1, .bool false, .int .i64 0, .int .i64 1]]) rfl (by kernel_rfl) (by kernel_rfl) ?_ AllReadyH.nil
          refine dMay_any x.e x.a x.v wa.drew hxl _ (fun wq1 hB => ?_)
          rw [hmd]
          refine ⟨_, rfl, hHeld.trans (hB.mono hHeld.size), ?_⟩
          have hHeld2 := hHeld.trans (hB.mono hHeld.size)
          clear hHeld
          have hHeld := hHeld2
          clear hHeld2
          clear hB
          try simp only [ν1, ν2, ν3, ν4, ν5, ν6, ν7, ν8]
          refine wpAnyH_take (i := 2) (v := .bool false) rfl (by kernel_rfl) (by kernel_rfl) (by kernel_rfl) (fun _ _ _ h => h) (Or.inl ⟨by rfl, ?_⟩) hHeld ?_
          · intro w' hSw; go_simp <;> omega
          try simp only [ν1, ν2, ν3, ν4, ν5, ν6, ν7, ν8]
          refine wpAnyH_take (i := 3) (v := .bool false) rfl (by kernel_rfl) (by kernel_rfl) (by kernel_rfl) (fun _ _ _ h => h) (Or.inl ⟨by rfl, ?_⟩) hHeld ?_
          · intro w' hSw; go_simp <;> omega
          try simp only [ν1, ν2, ν3, ν4, ν5, ν6, ν7, ν8]
          refine wpAnyH_take (i := 4) (v := .slice (some ⟨b, off, none⟩) l.length cap) rfl (by kernel_rfl) (by kernel_rfl) (by kernel_rfl) (fun _ _ _ h => h) (Or.inl ⟨by rfl, ?_⟩) hHeld ?_
          · intro w' hSw; go_simp <;> omega
          try simp only [ν1, ν2, ν3, ν4, ν5, ν6, ν7, ν8]
          refine wpAnyH_take (i := 5) (v := .int .i64 ((k : Int))) rfl (by kernel_rfl) (by kernel_rfl) (by kernel_rfl) (fun _ _ _ h => h) (Or.inl ⟨by rfl, ?_⟩) hHeld ?_
          · intro w' hSw; go_simp <;> omega
          try simp only [ν1, ν2, ν3, ν4, ν5, ν6, ν7, ν8]
          refine wpAnyH_take (i := 6) (v := .pointer (some ⟨b, off + k * 6, none⟩)) rfl (by kernel_rfl) (by kernel_rfl) (by kernel_rfl) (fun _ _ _ h => h) (Or.inl ⟨by rfl, ?_⟩) hHeld ?_
          · intro w' hSw; go_simp <;> omega
          try simp only [ν1, ν2, ν3, ν4, ν5, ν6, ν7, ν8]
          refine wpAnyH_take (i := 7) (v := .pointer (some ⟨b, off + k * 6 + 5, none⟩)) rfl (by kernel_rfl) (by kernel_rfl) (by kernel_rfl) (fun _ _ _ h => h) (Or.inl ⟨by rfl, ?_⟩) hHeld ?_
          · intro w' hSw; go_simp <;> omega
          try simp only [ν1, ν2, ν3, ν4, ν5, ν6, ν7, ν8]
          refine wpAnyH_take (i := 8) (v := .slice ax x.sp.length cx) rfl (by kernel_rfl) (by kernel_rfl) (by kernel_rfl) (fun _ _ _ h => h) (Or.inl ⟨by rfl, ?_⟩) hHeld ?_
          · intro w' hSw; have kx := (World.cell?_of_block (hSw.block _ hba)).trans g5; go_simp
          try simp only [ν1, ν2, ν3, ν4, ν5, ν6, ν7, ν8]
          refine wpAnyH_take (i := 9) (v := .int .i64 ((x.sp.length : Int))) rfl (by kernel_rfl) (by kernel_rfl) (by kernel_rfl) (fun _ _ _ h => h) (Or.inl ⟨by rfl, ?_⟩) hHeld ?_
          · intro w' hSw; go_simp <;> omega
          try simp only [ν1, ν2, ν3, ν4, ν5, ν6, ν7, ν8]
          refine wpAnyH_take (i := 10) (v := .bool false) rfl (by kernel_rfl) (by kernel_rfl) (by kernel_rfl) (fun _ _ _ h => h) (Or.inl ⟨by rfl, ?_⟩) hHeld ?_
          · intro w' hSw; go_simp <;> omega
          try simp only [ν1, ν2, ν3, ν4, ν5, ν6, ν7, ν8]
          refine wpAnyH_take (i := 11) (v := .bool false) rfl (by kernel_rfl) (by kernel_rfl) (by kernel_rfl) (fun _ _ _ h => h) (Or.inl ⟨by rfl, ?_⟩) hHeld ?_
          · intro w' hSw; go_simp <;> omega
          try simp only [ν1, ν2, ν3, ν4, ν5, ν6, ν7, ν8]
          refine wpAnyH_take (i := 12) (v := .bool false) rfl (by kernel_rfl) (by kernel_rfl) (by kernel_rfl) (fun _ _ _ h => h) (Or.inl ⟨by rfl, ?_⟩) hHeld ?_
          · intro w' hSw; go_simp <;> omega
          try simp only [ν1, ν2, ν3, ν4, ν5, ν6, ν7, ν8]
          refine wpAnyH_take (i := 13) (v := .slice (some ⟨b, off, none⟩) l.length cap) rfl (by kernel_rfl) (by kernel_rfl) (by kernel_rfl) (fun _ _ _ h => h) (Or.inl ⟨by rfl, ?_⟩) hHeld ?_
          · intro w' hSw; go_simp <;> omega
          try simp only [ν1, ν2, ν3, ν4, ν5, ν6, ν7, ν8]
          refine wpAnyH_take (i := 14) (v := .int .i64 ((k : Int))) rfl (by kernel_rfl) (by kernel_rfl) (by kernel_rfl) (fun _ _ _ h => h) (Or.inl ⟨by rfl, ?_⟩) hHeld ?_
          · intro w' hSw; go_simp <;> omega
          try simp only [ν1, ν2, ν3, ν4, ν5, ν6, ν7, ν8]
          refine wpAnyH_take (i := 15) (v := .pointer (some ⟨b, off + k * 6, none⟩)) rfl (by kernel_rfl) (by kernel_rfl) (by kernel_rfl) (fun _ _ _ h => h) (Or.inl ⟨by rfl, ?_⟩) hHeld ?_
          · intro w' hSw; go_simp <;> omega
          try simp only [ν1, ν2, ν3, ν4, ν5, ν6, ν7, ν8]
          refine wpAnyH_take (i := 16) (v := .pointer (some ⟨b, off + k * 6 + 5, none⟩)) rfl (by kernel_rfl) (by kernel_rfl) (by kernel_rfl) (fun _ _ _ h => h) (Or.inl ⟨by rfl, ?_⟩) hHeld ?_
          · intro w' hSw; go_simp <;> omega
          try simp only [ν1, ν2, ν3, ν4, ν5, ν6, ν7, ν8]
          refine wpAnyH_take (i := 17) (v := .slice ax x.sp.length cx) rfl (by kernel_rfl) (by kernel_rfl) (by kernel_rfl) (fun _ _ _ h => h) (Or.inl ⟨by rfl, ?_⟩) hHeld ?_
          · intro w' hSw; have kx := (World.cell?_of_block (hSw.block _ hba)).trans g5; go_simp
          try simp only [ν1, ν2, ν3, ν4, ν5, ν6, ν7, ν8]
          refine wpAnyH_ready (rs := [18]) (by kernel_rfl) (by simp) ?_
          refine allCall (f := 30) (args := #[.slice ax x.sp.length cx]) rfl (by kernel_rfl) (by kernel_rfl) ?_ AllReadyH.nil
          refine Set_any lo hi x.sp _ wq1 (hSp.out _ hHeld) (Nat.le_trans hha hHeld.size) _ (fun wq2 hB => ?_)
          rw [hst]
          refine ⟨_, rfl, hHeld.trans (hB.mono hHeld.size), ?_⟩
          have hHeld2 := hHeld.trans (hB.mono hHeld.size)
          clear hHeld
          have hHeld := hHeld2
          clear hHeld2
          clear hB
          try simp only [ν1, ν2, ν3, ν4, ν5, ν6, ν7, ν8]
          refine wpAnyH_take (i := 19) (v := .bool true) rfl (by kernel_rfl) (by kernel_rfl) (by kernel_rfl) (fun _ _ _ h => h) (Or.inl ⟨by rfl, ?_⟩) hHeld ?_
          · intro w' hSw; go_simp <;> omega
          try simp only [ν1, ν2, ν3, ν4, ν5, ν6, ν7, ν8]
          refine wpAnyH_take (i := 20) (v := .bool true) rfl (by kernel_rfl) (by kernel_rfl) (by kernel_rfl) (fun _ _ _ h => h) (Or.inl ⟨by rfl, ?_⟩) hHeld ?_
          · intro w' hSw; go_simp <;> omega
          try simp only [ν1, ν2, ν3, ν4, ν5, ν6, ν7, ν8]
          refine wpAnyH_take (i := 21) (v := .bool true) rfl (by kernel_rfl) (by kernel_rfl) (by kernel_rfl) (fun _ _ _ h => h) (Or.inl ⟨by rfl, ?_⟩) hHeld ?_
          · intro w' hSw; go_simp <;> omega
          try simp only [ν1, ν2, ν3, ν4, ν5, ν6, ν7, ν8]
          refine wpAnyH_take (i := 22) (v := undef) rfl (by kernel_rfl) (by kernel_rfl) (by kernel_rfl) (fun _ _ _ h => h) (Or.inr ⟨by kernel_rfl, rfl⟩) hHeld ?_
          try simp only [ν1, ν2, ν3, ν4, ν5, ν6, ν7, ν8]
          refine wpAnyH_take (i := 23) (v := undef) rfl (by kernel_rfl) (by kernel_rfl) (by kernel_rfl) (fun _ _ _ h => h) (Or.inr ⟨by kernel_rfl, rfl⟩) hHeld ?_
          try simp only [ν1, ν2, ν3, ν4, ν5, ν6, ν7, ν8]
          refine wpAnyH_take (i := 24) (v := undef) rfl (by kernel_rfl) (by kernel_rfl) (by kernel_rfl) (fun _ _ _ h => h) (Or.inr ⟨by kernel_rfl, rfl⟩) hHeld ?_
          try simp only [ν1, ν2, ν3, ν4, ν5, ν6, ν7, ν8]
          refine wpAnyH_take (i := 25) (v := undef) rfl (by kernel_rfl) (by kernel_rfl) (by kernel_rfl) (fun _ _ _ h => h) (Or.inr ⟨by kernel_rfl, rfl⟩) hHeld ?_
          try simp only [ν1, ν2, ν3, ν4, ν5, ν6, ν7, ν8]
          refine wpAnyH_take (i := 26) (v := undef) rfl (by kernel_rfl) (by kernel_rfl) (by kernel_rfl) (fun _ _ _ h => h) (Or.inr ⟨by kernel_rfl, rfl⟩) hHeld ?_
          try simp only [ν1, ν2, ν3, ν4, ν5, ν6, ν7, ν8]
          refine wpAnyH_take (i := 27) (v := undef) rfl (by kernel_rfl) (by kernel_rfl) (by kernel_rfl) (fun _ _ _ h => h) (Or.inr ⟨by kernel_rfl, rfl⟩) hHeld ?_
          try simp only [ν1, ν2, ν3, ν4, ν5, ν6, ν7, ν8]
          refine wpAnyH_take (i := 28) (v := undef) rfl (by kernel_rfl) (by kernel_rfl) (by kernel_rfl) (fun _ _ _ h => h) (Or.inr ⟨by kernel_rfl, rfl⟩) hHeld ?_
          try simp only [ν1, ν2, ν3, ν4, ν5, ν6, ν7, ν8]
          refine wpAnyH_take (i := 29) (v := undef) rfl (by kernel_rfl) (by kernel_rfl) (by kernel_rfl) (fun _ _ _ h => h) (Or.inr ⟨by kernel_rfl, rfl⟩) hHeld ?_
          try simp only [ν1, ν2, ν3, ν4, ν5, ν6, ν7, ν8]
          refine wpAnyH_take (i := 30) (v := undef) rfl (by kernel_rfl) (by kernel_rfl) (by kernel_rfl) (fun _ _ _ h => h) (Or.inr ⟨by kernel_rfl, rfl⟩) hHeld ?_
          try simp only [ν1, ν2, ν3, ν4, ν5, ν6, ν7, ν8]
          refine wpAnyH_take (i := 31) (v := undef) rfl (by kernel_rfl) (by kernel_rfl) (by kernel_rfl) (fun _ _ _ h => h) (Or.inr ⟨by kernel_rfl, rfl⟩) hHeld ?_
          try simp only [ν1, ν2, ν3, ν4, ν5, ν6, ν7, ν8]
          refine wpAnyH_take (i := 32) (v := undef) rfl (by kernel_rfl) (by kernel_rfl) (by kernel_rfl) (fun _ _ _ h => h) (Or.inr ⟨by kernel_rfl, rfl⟩) hHeld ?_
          try simp only [ν1, ν2, ν3, ν4, ν5, ν6, ν7, ν8]
          refine wpAnyH_take (i := 33) (v := undef) rfl (by kernel_rfl) (by kernel_rfl) (by kernel_rfl) (fun _ _ _ h => h) (Or.inr ⟨by kernel_rfl, rfl⟩) hHeld ?_
          try simp only [ν1, ν2, ν3, ν4, ν5, ν6, ν7, ν8]
          refine wpAnyH_take (i := 34) (v := undef) rfl (by kernel_rfl) (by kernel_rfl) (by kernel_rfl) (fun _ _ _ h => h) (Or.inr ⟨by kernel_rfl, rfl⟩) hHeld ?_
          try simp only [ν1, ν2, ν3, ν4, ν5, ν6, ν7, ν8]
          refine wpAnyH_take (i := 35) (v := undef) rfl (by kernel_rfl) (by kernel_rfl) (by kernel_rfl) (fun _ _ _ h => h) (Or.inr ⟨by kernel_rfl, rfl⟩) hHeld ?_
          try simp only [ν1, ν2, ν3, ν4, ν5, ν6, ν7, ν8]
          refine wpAnyH_take (i := 36) (v := undef) rfl (by kernel_rfl) (by kernel_rfl) (by kernel_rfl) (fun _ _ _ h => h) (Or.inr ⟨by kernel_rfl, rfl⟩) hHeld ?_
          try simp only [ν1, ν2, ν3, ν4, ν5, ν6, ν7, ν8]
          refine wpAnyH_take (i := 37) (v := .bool true) rfl (by kernel_rfl) (by kernel_rfl) (by kernel_rfl) (fun _ _ _ h => h) (Or.inl ⟨by rfl, ?_⟩) hHeld ?_
          · intro w' hSw; go_simp <;> omega
          try simp only [ν1, ν2, ν3, ν4, ν5, ν6, ν7, ν8]
          have hHeld0 := hHeld
          refine wpAnyH_done (by kernel_rfl) ?_ _
          clear hHeld
          have HB7 := Lib.hid (HBa.out.trans (hHeld0.mono HBa.out.size))
          clear hHeld0
          go_wp2_with fail
          exact fin (hR _ HB7.out) (show Value.bool _ = Value.bool _ by rw [factsB_false hlt (by rw [Ho.out, (may_set hmd (by omega)).trans hst]; rfl)])
        by_cases hok : cmpF p x < 0
        ·
          refine wp_region_held_drew (S := fun w' => Below wa.heap.size wa w') (by kernel_rfl) (Below.drew (Below.refl _ _)) (fun hHeld => ?_)
          refine wpAnyH_take (i := 0) (v := .agg #[.int .i64 (x.e), .int .i64 (x.a), .int .i64 (x.v.kind), .int .i64 (x.v.n), .string ⟨x.v.s.toArray⟩, .int .i64 1, .bool false, .int .i64 0, .int .i64 1]) rfl (by kernel_rfl) (by kernel_rfl) (by kernel_rfl) (fun _ _ _ h => h) (Or.inl ⟨by rfl, ?_⟩) hHeld ?_
          · intro w' hSw; have k0 := (World.cell?_of_block (hSw.block _ hy1)).trans y0; have k1 := (World.cell?_of_block (hSw.block _ hy1)).trans y1; have k2 := (World.cell?_of_block (hSw.block _ hy1)).trans y2; have k3 := (World.cell?_of_block (hSw.block _ hy1)).trans y3; have k4 := (World.cell?_of_block (hSw.block _ hy1)).trans y4; have k5 := (World.cell?_of_block (hSw.block _ hy1)).trans y5; have k6 := (World.cell?_of_block (hSw.block _ hy1)).trans y6; have k7 := (World.cell?_of_block (hSw.block _ hy1)).trans y7; have k8 := (World.cell?_of_block (hSw.block _ hy1)).trans y8; go_simp
          try simp only [ν1, ν2, ν3, ν4, ν5, ν6, ν7, ν8]
          refine wpAnyH_ready (rs := [1]) (by kernel_rfl) (by simp) ?_
          refine allCall (f := 29) (args := #[.agg #[.int .i64 (x.e), .int .i64 (x.a), .int .i64 (x.v.kind), .int .i64 (x.v.n), .string ⟨x.v.s.toArray⟩, .int .i64 1, .bool false, .int .i64 0, .int .i64 1]]) rfl (by kernel_rfl) (by kernel_rfl) ?_ AllReadyH.nil
          refine dMay_any x.e x.a x.v wa.drew hxl _ (fun wq1 hB => ?_)
          rw [hmd]
          refine ⟨_, rfl, hHeld.trans (hB.mono hHeld.size), ?_⟩
          have hHeld2 := hHeld.trans (hB.mono hHeld.size)
          clear hHeld
          have hHeld := hHeld2
          clear hHeld2
          clear hB
          try simp only [ν1, ν2, ν3, ν4, ν5, ν6, ν7, ν8]
          refine wpAnyH_take (i := 2) (v := .bool false) rfl (by kernel_rfl) (by kernel_rfl) (by kernel_rfl) (fun _ _ _ h => h) (Or.inl ⟨by rfl, ?_⟩) hHeld ?_
          · intro w' hSw; go_simp <;> omega
          try simp only [ν1, ν2, ν3, ν4, ν5, ν6, ν7, ν8]
          refine wpAnyH_take (i := 3) (v := .bool false) rfl (by kernel_rfl) (by kernel_rfl) (by kernel_rfl) (fun _ _ _ h => h) (Or.inl ⟨by rfl, ?_⟩) hHeld ?_
          · intro w' hSw; go_simp <;> omega
          try simp only [ν1, ν2, ν3, ν4, ν5, ν6, ν7, ν8]
          refine wpAnyH_take (i := 4) (v := .slice (some ⟨b, off, none⟩) l.length cap) rfl (by kernel_rfl) (by kernel_rfl) (by kernel_rfl) (fun _ _ _ h => h) (Or.inl ⟨by rfl, ?_⟩) hHeld ?_
          · intro w' hSw; go_simp <;> omega
          try simp only [ν1, ν2, ν3, ν4, ν5, ν6, ν7, ν8]
          refine wpAnyH_take (i := 5) (v := .int .i64 ((k : Int))) rfl (by kernel_rfl) (by kernel_rfl) (by kernel_rfl) (fun _ _ _ h => h) (Or.inl ⟨by rfl, ?_⟩) hHeld ?_
          · intro w' hSw; go_simp <;> omega
          try simp only [ν1, ν2, ν3, ν4, ν5, ν6, ν7, ν8]
          refine wpAnyH_take (i := 6) (v := .pointer (some ⟨b, off + k * 6, none⟩)) rfl (by kernel_rfl) (by kernel_rfl) (by kernel_rfl) (fun _ _ _ h => h) (Or.inl ⟨by rfl, ?_⟩) hHeld ?_
          · intro w' hSw; go_simp <;> omega
          try simp only [ν1, ν2, ν3, ν4, ν5, ν6, ν7, ν8]
          refine wpAnyH_take (i := 7) (v := .pointer (some ⟨b, off + k * 6 + 5, none⟩)) rfl (by kernel_rfl) (by kernel_rfl) (by kernel_rfl) (fun _ _ _ h => h) (Or.inl ⟨by rfl, ?_⟩) hHeld ?_
          · intro w' hSw; go_simp <;> omega
          try simp only [ν1, ν2, ν3, ν4, ν5, ν6, ν7, ν8]
          refine wpAnyH_take (i := 8) (v := .slice ax x.sp.length cx) rfl (by kernel_rfl) (by kernel_rfl) (by kernel_rfl) (fun _ _ _ h => h) (Or.inl ⟨by rfl, ?_⟩) hHeld ?_
          · intro w' hSw; have kx := (World.cell?_of_block (hSw.block _ hba)).trans g5; go_simp
          try simp only [ν1, ν2, ν3, ν4, ν5, ν6, ν7, ν8]
          refine wpAnyH_take (i := 9) (v := .int .i64 ((x.sp.length : Int))) rfl (by kernel_rfl) (by kernel_rfl) (by kernel_rfl) (fun _ _ _ h => h) (Or.inl ⟨by rfl, ?_⟩) hHeld ?_
          · intro w' hSw; go_simp <;> omega
          try simp only [ν1, ν2, ν3, ν4, ν5, ν6, ν7, ν8]
          refine wpAnyH_take (i := 10) (v := .bool false) rfl (by kernel_rfl) (by kernel_rfl) (by kernel_rfl) (fun _ _ _ h => h) (Or.inl ⟨by rfl, ?_⟩) hHeld ?_
          · intro w' hSw; go_simp <;> omega
          try simp only [ν1, ν2, ν3, ν4, ν5, ν6, ν7, ν8]
          refine wpAnyH_take (i := 11) (v := .bool false) rfl (by kernel_rfl) (by kernel_rfl) (by kernel_rfl) (fun _ _ _ h => h) (Or.inl ⟨by rfl, ?_⟩) hHeld ?_
          · intro w' hSw; go_simp <;> omega
          try simp only [ν1, ν2, ν3, ν4, ν5, ν6, ν7, ν8]
          refine wpAnyH_take (i := 12) (v := .bool false) rfl (by kernel_rfl) (by kernel_rfl) (by kernel_rfl) (fun _ _ _ h => h) (Or.inl ⟨by rfl, ?_⟩) hHeld ?_
          · intro w' hSw; go_simp <;> omega
          try simp only [ν1, ν2, ν3, ν4, ν5, ν6, ν7, ν8]
          refine wpAnyH_take (i := 13) (v := .slice (some ⟨b, off, none⟩) l.length cap) rfl (by kernel_rfl) (by kernel_rfl) (by kernel_rfl) (fun _ _ _ h => h) (Or.inl ⟨by rfl, ?_⟩) hHeld ?_
          · intro w' hSw; go_simp <;> omega
          try simp only [ν1, ν2, ν3, ν4, ν5, ν6, ν7, ν8]
          refine wpAnyH_take (i := 14) (v := .int .i64 ((k : Int))) rfl (by kernel_rfl) (by kernel_rfl) (by kernel_rfl) (fun _ _ _ h => h) (Or.inl ⟨by rfl, ?_⟩) hHeld ?_
          · intro w' hSw; go_simp <;> omega
          try simp only [ν1, ν2, ν3, ν4, ν5, ν6, ν7, ν8]
          refine wpAnyH_take (i := 15) (v := .pointer (some ⟨b, off + k * 6, none⟩)) rfl (by kernel_rfl) (by kernel_rfl) (by kernel_rfl) (fun _ _ _ h => h) (Or.inl ⟨by rfl, ?_⟩) hHeld ?_
          · intro w' hSw; go_simp <;> omega
          try simp only [ν1, ν2, ν3, ν4, ν5, ν6, ν7, ν8]
          refine wpAnyH_take (i := 16) (v := .pointer (some ⟨b, off + k * 6 + 5, none⟩)) rfl (by kernel_rfl) (by kernel_rfl) (by kernel_rfl) (fun _ _ _ h => h) (Or.inl ⟨by rfl, ?_⟩) hHeld ?_
          · intro w' hSw; go_simp <;> omega
          try simp only [ν1, ν2, ν3, ν4, ν5, ν6, ν7, ν8]
          refine wpAnyH_take (i := 17) (v := .slice ax x.sp.length cx) rfl (by kernel_rfl) (by kernel_rfl) (by kernel_rfl) (fun _ _ _ h => h) (Or.inl ⟨by rfl, ?_⟩) hHeld ?_
          · intro w' hSw; have kx := (World.cell?_of_block (hSw.block _ hba)).trans g5; go_simp
          try simp only [ν1, ν2, ν3, ν4, ν5, ν6, ν7, ν8]
          refine wpAnyH_ready (rs := [18]) (by kernel_rfl) (by simp) ?_
          refine allCall (f := 30) (args := #[.slice ax x.sp.length cx]) rfl (by kernel_rfl) (by kernel_rfl) ?_ AllReadyH.nil
          refine Set_any lo hi x.sp _ wq1 (hSp.out _ hHeld) (Nat.le_trans hha hHeld.size) _ (fun wq2 hB => ?_)
          rw [hst]
          refine ⟨_, rfl, hHeld.trans (hB.mono hHeld.size), ?_⟩
          have hHeld2 := hHeld.trans (hB.mono hHeld.size)
          clear hHeld
          have hHeld := hHeld2
          clear hHeld2
          clear hB
          try simp only [ν1, ν2, ν3, ν4, ν5, ν6, ν7, ν8]
          refine wpAnyH_take (i := 19) (v := .bool false) rfl (by kernel_rfl) (by kernel_rfl) (by kernel_rfl) (fun _ _ _ h => h) (Or.inl ⟨by rfl, ?_⟩) hHeld ?_
          · intro w' hSw; go_simp <;> omega
          try simp only [ν1, ν2, ν3, ν4, ν5, ν6, ν7, ν8]
          refine wpAnyH_take (i := 20) (v := .bool false) rfl (by kernel_rfl) (by kernel_rfl) (by kernel_rfl) (fun _ _ _ h => h) (Or.inl ⟨by rfl, ?_⟩) hHeld ?_
          · intro w' hSw; go_simp <;> omega
          try simp only [ν1, ν2, ν3, ν4, ν5, ν6, ν7, ν8]
          refine wpAnyH_take (i := 21) (v := .bool false) rfl (by kernel_rfl) (by kernel_rfl) (by kernel_rfl) (fun _ _ _ h => h) (Or.inl ⟨by rfl, ?_⟩) hHeld ?_
          · intro w' hSw; go_simp <;> omega
          try simp only [ν1, ν2, ν3, ν4, ν5, ν6, ν7, ν8]
          refine wpAnyH_take (i := 22) (v := .int .i64 ((k : Int))) rfl (by kernel_rfl) (by kernel_rfl) (by kernel_rfl) (fun _ _ _ h => h) (Or.inl ⟨by rfl, ?_⟩) hHeld ?_
          · intro w' hSw; go_simp <;> omega
          try simp only [ν1, ν2, ν3, ν4, ν5, ν6, ν7, ν8]
          refine wpAnyH_take (i := 23) (v := .bool true) rfl (by kernel_rfl) (by kernel_rfl) (by kernel_rfl) (fun _ _ _ h => h) (Or.inl ⟨by rfl, ?_⟩) hHeld ?_
          · intro w' hSw; go_simp <;> omega
          try simp only [ν1, ν2, ν3, ν4, ν5, ν6, ν7, ν8]
          refine wpAnyH_take (i := 24) (v := .bool true) rfl (by kernel_rfl) (by kernel_rfl) (by kernel_rfl) (fun _ _ _ h => h) (Or.inl ⟨by rfl, ?_⟩) hHeld ?_
          · intro w' hSw; go_simp <;> omega
          try simp only [ν1, ν2, ν3, ν4, ν5, ν6, ν7, ν8]
          refine wpAnyH_take (i := 25) (v := .slice (some ⟨b, off, none⟩) l.length cap) rfl (by kernel_rfl) (by kernel_rfl) (by kernel_rfl) (fun _ _ _ h => h) (Or.inl ⟨by rfl, ?_⟩) hHeld ?_
          · intro w' hSw; go_simp <;> omega
          try simp only [ν1, ν2, ν3, ν4, ν5, ν6, ν7, ν8]
          refine wpAnyH_take (i := 26) (v := .int .i64 ((k : Int))) rfl (by kernel_rfl) (by kernel_rfl) (by kernel_rfl) (fun _ _ _ h => h) (Or.inl ⟨by rfl, ?_⟩) hHeld ?_
          · intro w' hSw; go_simp <;> omega
          try simp only [ν1, ν2, ν3, ν4, ν5, ν6, ν7, ν8]
          refine wpAnyH_take (i := 27) (v := .int .i64 ((m : Int))) rfl (by kernel_rfl) (by kernel_rfl) (by kernel_rfl) (fun _ _ _ h => h) (Or.inl ⟨by rfl, ?_⟩) hHeld ?_
          · intro w' hSw; go_simp <;> omega
          try simp only [ν1, ν2, ν3, ν4, ν5, ν6, ν7, ν8]
          refine wpAnyH_take (i := 28) (v := .pointer (some ⟨b, off + m * 6, none⟩)) rfl (by kernel_rfl) (by kernel_rfl) (by kernel_rfl) (fun _ _ _ h => h) (Or.inl ⟨by rfl, ?_⟩) hHeld ?_
          · intro w' hSw; go_simp <;> omega
          try simp only [ν1, ν2, ν3, ν4, ν5, ν6, ν7, ν8]
          refine wpAnyH_take (i := 29) (v := .agg #[.int .i64 (p.e), .int .i64 (p.a), .int .i64 (p.v.kind), .int .i64 (p.v.n), .string ⟨p.v.s.toArray⟩, .slice ap p.sp.length cp]) rfl (by kernel_rfl) (by kernel_rfl) (by kernel_rfl) (fun _ _ _ h => h) (Or.inl ⟨by rfl, ?_⟩) hHeld ?_
          · intro w' hSw; have k0 := (World.cell?_of_block (hSw.block _ hba)).trans q0; have k1 := (World.cell?_of_block (hSw.block _ hba)).trans q1; have k2 := (World.cell?_of_block (hSw.block _ hba)).trans q2; have k3 := (World.cell?_of_block (hSw.block _ hba)).trans q3; have k4 := (World.cell?_of_block (hSw.block _ hba)).trans q4; have k5 := (World.cell?_of_block (hSw.block _ hba)).trans q5; go_simp
          try simp only [ν1, ν2, ν3, ν4, ν5, ν6, ν7, ν8]
          refine wpAnyH_take (i := 30) (v := .slice (some ⟨b, off, none⟩) l.length cap) rfl (by kernel_rfl) (by kernel_rfl) (by kernel_rfl) (fun _ _ _ h => h) (Or.inl ⟨by rfl, ?_⟩) hHeld ?_
          · intro w' hSw; go_simp <;> omega
          try simp only [ν1, ν2, ν3, ν4, ν5, ν6, ν7, ν8]
          refine wpAnyH_take (i := 31) (v := .int .i64 ((k : Int))) rfl (by kernel_rfl) (by kernel_rfl) (by kernel_rfl) (fun _ _ _ h => h) (Or.inl ⟨by rfl, ?_⟩) hHeld ?_
          · intro w' hSw; go_simp <;> omega
          try simp only [ν1, ν2, ν3, ν4, ν5, ν6, ν7, ν8]
          refine wpAnyH_take (i := 32) (v := .pointer (some ⟨b, off + k * 6, none⟩)) rfl (by kernel_rfl) (by kernel_rfl) (by kernel_rfl) (fun _ _ _ h => h) (Or.inl ⟨by rfl, ?_⟩) hHeld ?_
          · intro w' hSw; go_simp <;> omega
          try simp only [ν1, ν2, ν3, ν4, ν5, ν6, ν7, ν8]
          refine wpAnyH_take (i := 33) (v := .agg #[.int .i64 (x.e), .int .i64 (x.a), .int .i64 (x.v.kind), .int .i64 (x.v.n), .string ⟨x.v.s.toArray⟩, .slice ax x.sp.length cx]) rfl (by kernel_rfl) (by kernel_rfl) (by kernel_rfl) (fun _ _ _ h => h) (Or.inl ⟨by rfl, ?_⟩) hHeld ?_
          · intro w' hSw; have k0 := (World.cell?_of_block (hSw.block _ hba)).trans g0; have k1 := (World.cell?_of_block (hSw.block _ hba)).trans g1; have k2 := (World.cell?_of_block (hSw.block _ hba)).trans g2; have k3 := (World.cell?_of_block (hSw.block _ hba)).trans g3; have k4 := (World.cell?_of_block (hSw.block _ hba)).trans g4; have k5 := (World.cell?_of_block (hSw.block _ hba)).trans g5; go_simp
          try simp only [ν1, ν2, ν3, ν4, ν5, ν6, ν7, ν8]
          refine wpAnyH_ready (rs := [34]) (by kernel_rfl) (by simp) ?_
          refine allCall (f := 31) (args := #[.agg #[.int .i64 (p.e), .int .i64 (p.a), .int .i64 (p.v.kind), .int .i64 (p.v.n), .string ⟨p.v.s.toArray⟩, .slice ap p.sp.length cp], .agg #[.int .i64 (x.e), .int .i64 (x.a), .int .i64 (x.v.kind), .int .i64 (x.v.n), .string ⟨x.v.s.toArray⟩, .slice ax x.sp.length cx]]) rfl (by kernel_rfl) (by kernel_rfl) ?_ AllReadyH.nil
          refine fCompare_any p x _ _ wq2 hpl hxl _ (fun wq3 hB => ?_)
          refine ⟨_, rfl, hHeld.trans (hB.mono hHeld.size), ?_⟩
          have hHeld2 := hHeld.trans (hB.mono hHeld.size)
          clear hHeld
          have hHeld := hHeld2
          clear hHeld2
          clear hB
          try simp only [ν1, ν2, ν3, ν4, ν5, ν6, ν7, ν8]
          refine wpAnyH_take (i := 35) (v := .bool false) rfl (by kernel_rfl) (by kernel_rfl) (by kernel_rfl) (fun _ _ _ h => h) (Or.inl ⟨by rfl, ?_⟩) hHeld ?_
          · intro w' hSw; go_simp <;> omega
          try simp only [ν1, ν2, ν3, ν4, ν5, ν6, ν7, ν8]
          refine wpAnyH_take (i := 36) (v := .bool false) rfl (by kernel_rfl) (by kernel_rfl) (by kernel_rfl) (fun _ _ _ h => h) (Or.inl ⟨by rfl, ?_⟩) hHeld ?_
          · intro w' hSw; go_simp <;> omega
          try simp only [ν1, ν2, ν3, ν4, ν5, ν6, ν7, ν8]
          refine wpAnyH_take (i := 37) (v := .bool false) rfl (by kernel_rfl) (by kernel_rfl) (by kernel_rfl) (fun _ _ _ h => h) (Or.inl ⟨by rfl, ?_⟩) hHeld ?_
          · intro w' hSw; go_simp <;> omega
          try simp only [ν1, ν2, ν3, ν4, ν5, ν6, ν7, ν8]
          have hHeld0 := hHeld
          refine wpAnyH_done (by kernel_rfl) ?_ _
          clear hHeld
          have HB7 := Lib.hid (HBa.out.trans (hHeld0.mono HBa.out.size))
          clear hHeld0
          go_wp2_with fail
          go_roundw
          case rel => exact ⟨k + 1, by omega, by go_num, fun j hj => by
            by_cases e : j = k
            · subst e; rw [Ho.out, Hj.out, (may_set hmd (by omega)).trans hst]; simp [hok]
            · exact Hyes.out j (by omega), HB7.out⟩
          case measure => simp [intOf]; omega
        ·
          refine wp_region_held_drew (S := fun w' => Below wa.heap.size wa w') (by kernel_rfl) (Below.drew (Below.refl _ _)) (fun hHeld => ?_)
          refine wpAnyH_take (i := 0) (v := .agg #[.int .i64 (x.e), .int .i64 (x.a), .int .i64 (x.v.kind), .int .i64 (x.v.n), .string ⟨x.v.s.toArray⟩, .int .i64 1, .bool false, .int .i64 0, .int .i64 1]) rfl (by kernel_rfl) (by kernel_rfl) (by kernel_rfl) (fun _ _ _ h => h) (Or.inl ⟨by rfl, ?_⟩) hHeld ?_
          · intro w' hSw; have k0 := (World.cell?_of_block (hSw.block _ hy1)).trans y0; have k1 := (World.cell?_of_block (hSw.block _ hy1)).trans y1; have k2 := (World.cell?_of_block (hSw.block _ hy1)).trans y2; have k3 := (World.cell?_of_block (hSw.block _ hy1)).trans y3; have k4 := (World.cell?_of_block (hSw.block _ hy1)).trans y4; have k5 := (World.cell?_of_block (hSw.block _ hy1)).trans y5; have k6 := (World.cell?_of_block (hSw.block _ hy1)).trans y6; have k7 := (World.cell?_of_block (hSw.block _ hy1)).trans y7; have k8 := (World.cell?_of_block (hSw.block _ hy1)).trans y8; go_simp
          try simp only [ν1, ν2, ν3, ν4, ν5, ν6, ν7, ν8]
          refine wpAnyH_ready (rs := [1]) (by kernel_rfl) (by simp) ?_
          refine allCall (f := 29) (args := #[.agg #[.int .i64 (x.e), .int .i64 (x.a), .int .i64 (x.v.kind), .int .i64 (x.v.n), .string ⟨x.v.s.toArray⟩, .int .i64 1, .bool false, .int .i64 0, .int .i64 1]]) rfl (by kernel_rfl) (by kernel_rfl) ?_ AllReadyH.nil
          refine dMay_any x.e x.a x.v wa.drew hxl _ (fun wq1 hB => ?_)
          rw [hmd]
          refine ⟨_, rfl, hHeld.trans (hB.mono hHeld.size), ?_⟩
          have hHeld2 := hHeld.trans (hB.mono hHeld.size)
          clear hHeld
          have hHeld := hHeld2
          clear hHeld2
          clear hB
          try simp only [ν1, ν2, ν3, ν4, ν5, ν6, ν7, ν8]
          refine wpAnyH_take (i := 2) (v := .bool false) rfl (by kernel_rfl) (by kernel_rfl) (by kernel_rfl) (fun _ _ _ h => h) (Or.inl ⟨by rfl, ?_⟩) hHeld ?_
          · intro w' hSw; go_simp <;> omega
          try simp only [ν1, ν2, ν3, ν4, ν5, ν6, ν7, ν8]
          refine wpAnyH_take (i := 3) (v := .bool false) rfl (by kernel_rfl) (by kernel_rfl) (by kernel_rfl) (fun _ _ _ h => h) (Or.inl ⟨by rfl, ?_⟩) hHeld ?_
          · intro w' hSw; go_simp <;> omega
          try simp only [ν1, ν2, ν3, ν4, ν5, ν6, ν7, ν8]
          refine wpAnyH_take (i := 4) (v := .slice (some ⟨b, off, none⟩) l.length cap) rfl (by kernel_rfl) (by kernel_rfl) (by kernel_rfl) (fun _ _ _ h => h) (Or.inl ⟨by rfl, ?_⟩) hHeld ?_
          · intro w' hSw; go_simp <;> omega
          try simp only [ν1, ν2, ν3, ν4, ν5, ν6, ν7, ν8]
          refine wpAnyH_take (i := 5) (v := .int .i64 ((k : Int))) rfl (by kernel_rfl) (by kernel_rfl) (by kernel_rfl) (fun _ _ _ h => h) (Or.inl ⟨by rfl, ?_⟩) hHeld ?_
          · intro w' hSw; go_simp <;> omega
          try simp only [ν1, ν2, ν3, ν4, ν5, ν6, ν7, ν8]
          refine wpAnyH_take (i := 6) (v := .pointer (some ⟨b, off + k * 6, none⟩)) rfl (by kernel_rfl) (by kernel_rfl) (by kernel_rfl) (fun _ _ _ h => h) (Or.inl ⟨by rfl, ?_⟩) hHeld ?_
          · intro w' hSw; go_simp <;> omega
          try simp only [ν1, ν2, ν3, ν4, ν5, ν6, ν7, ν8]
          refine wpAnyH_take (i := 7) (v := .pointer (some ⟨b, off + k * 6 + 5, none⟩)) rfl (by kernel_rfl) (by kernel_rfl) (by kernel_rfl) (fun _ _ _ h => h) (Or.inl ⟨by rfl, ?_⟩) hHeld ?_
          · intro w' hSw; go_simp <;> omega
          try simp only [ν1, ν2, ν3, ν4, ν5, ν6, ν7, ν8]
          refine wpAnyH_take (i := 8) (v := .slice ax x.sp.length cx) rfl (by kernel_rfl) (by kernel_rfl) (by kernel_rfl) (fun _ _ _ h => h) (Or.inl ⟨by rfl, ?_⟩) hHeld ?_
          · intro w' hSw; have kx := (World.cell?_of_block (hSw.block _ hba)).trans g5; go_simp
          try simp only [ν1, ν2, ν3, ν4, ν5, ν6, ν7, ν8]
          refine wpAnyH_take (i := 9) (v := .int .i64 ((x.sp.length : Int))) rfl (by kernel_rfl) (by kernel_rfl) (by kernel_rfl) (fun _ _ _ h => h) (Or.inl ⟨by rfl, ?_⟩) hHeld ?_
          · intro w' hSw; go_simp <;> omega
          try simp only [ν1, ν2, ν3, ν4, ν5, ν6, ν7, ν8]
          refine wpAnyH_take (i := 10) (v := .bool false) rfl (by kernel_rfl) (by kernel_rfl) (by kernel_rfl) (fun _ _ _ h => h) (Or.inl ⟨by rfl, ?_⟩) hHeld ?_
          · intro w' hSw; go_simp <;> omega
          try simp only [ν1, ν2, ν3, ν4, ν5, ν6, ν7, ν8]
          refine wpAnyH_take (i := 11) (v := .bool false) rfl (by kernel_rfl) (by kernel_rfl) (by kernel_rfl) (fun _ _ _ h => h) (Or.inl ⟨by rfl, ?_⟩) hHeld ?_
          · intro w' hSw; go_simp <;> omega
          try simp only [ν1, ν2, ν3, ν4, ν5, ν6, ν7, ν8]
          refine wpAnyH_take (i := 12) (v := .bool false) rfl (by kernel_rfl) (by kernel_rfl) (by kernel_rfl) (fun _ _ _ h => h) (Or.inl ⟨by rfl, ?_⟩) hHeld ?_
          · intro w' hSw; go_simp <;> omega
          try simp only [ν1, ν2, ν3, ν4, ν5, ν6, ν7, ν8]
          refine wpAnyH_take (i := 13) (v := .slice (some ⟨b, off, none⟩) l.length cap) rfl (by kernel_rfl) (by kernel_rfl) (by kernel_rfl) (fun _ _ _ h => h) (Or.inl ⟨by rfl, ?_⟩) hHeld ?_
          · intro w' hSw; go_simp <;> omega
          try simp only [ν1, ν2, ν3, ν4, ν5, ν6, ν7, ν8]
          refine wpAnyH_take (i := 14) (v := .int .i64 ((k : Int))) rfl (by kernel_rfl) (by kernel_rfl) (by kernel_rfl) (fun _ _ _ h => h) (Or.inl ⟨by rfl, ?_⟩) hHeld ?_
          · intro w' hSw; go_simp <;> omega
          try simp only [ν1, ν2, ν3, ν4, ν5, ν6, ν7, ν8]
          refine wpAnyH_take (i := 15) (v := .pointer (some ⟨b, off + k * 6, none⟩)) rfl (by kernel_rfl) (by kernel_rfl) (by kernel_rfl) (fun _ _ _ h => h) (Or.inl ⟨by rfl, ?_⟩) hHeld ?_
          · intro w' hSw; go_simp <;> omega
          try simp only [ν1, ν2, ν3, ν4, ν5, ν6, ν7, ν8]
          refine wpAnyH_take (i := 16) (v := .pointer (some ⟨b, off + k * 6 + 5, none⟩)) rfl (by kernel_rfl) (by kernel_rfl) (by kernel_rfl) (fun _ _ _ h => h) (Or.inl ⟨by rfl, ?_⟩) hHeld ?_
          · intro w' hSw; go_simp <;> omega
          try simp only [ν1, ν2, ν3, ν4, ν5, ν6, ν7, ν8]
          refine wpAnyH_take (i := 17) (v := .slice ax x.sp.length cx) rfl (by kernel_rfl) (by kernel_rfl) (by kernel_rfl) (fun _ _ _ h => h) (Or.inl ⟨by rfl, ?_⟩) hHeld ?_
          · intro w' hSw; have kx := (World.cell?_of_block (hSw.block _ hba)).trans g5; go_simp
          try simp only [ν1, ν2, ν3, ν4, ν5, ν6, ν7, ν8]
          refine wpAnyH_ready (rs := [18]) (by kernel_rfl) (by simp) ?_
          refine allCall (f := 30) (args := #[.slice ax x.sp.length cx]) rfl (by kernel_rfl) (by kernel_rfl) ?_ AllReadyH.nil
          refine Set_any lo hi x.sp _ wq1 (hSp.out _ hHeld) (Nat.le_trans hha hHeld.size) _ (fun wq2 hB => ?_)
          rw [hst]
          refine ⟨_, rfl, hHeld.trans (hB.mono hHeld.size), ?_⟩
          have hHeld2 := hHeld.trans (hB.mono hHeld.size)
          clear hHeld
          have hHeld := hHeld2
          clear hHeld2
          clear hB
          try simp only [ν1, ν2, ν3, ν4, ν5, ν6, ν7, ν8]
          refine wpAnyH_take (i := 19) (v := .bool false) rfl (by kernel_rfl) (by kernel_rfl) (by kernel_rfl) (fun _ _ _ h => h) (Or.inl ⟨by rfl, ?_⟩) hHeld ?_
          · intro w' hSw; go_simp <;> omega
          try simp only [ν1, ν2, ν3, ν4, ν5, ν6, ν7, ν8]
          refine wpAnyH_take (i := 20) (v := .bool false) rfl (by kernel_rfl) (by kernel_rfl) (by kernel_rfl) (fun _ _ _ h => h) (Or.inl ⟨by rfl, ?_⟩) hHeld ?_
          · intro w' hSw; go_simp <;> omega
          try simp only [ν1, ν2, ν3, ν4, ν5, ν6, ν7, ν8]
          refine wpAnyH_take (i := 21) (v := .bool false) rfl (by kernel_rfl) (by kernel_rfl) (by kernel_rfl) (fun _ _ _ h => h) (Or.inl ⟨by rfl, ?_⟩) hHeld ?_
          · intro w' hSw; go_simp <;> omega
          try simp only [ν1, ν2, ν3, ν4, ν5, ν6, ν7, ν8]
          refine wpAnyH_take (i := 22) (v := .int .i64 ((k : Int))) rfl (by kernel_rfl) (by kernel_rfl) (by kernel_rfl) (fun _ _ _ h => h) (Or.inl ⟨by rfl, ?_⟩) hHeld ?_
          · intro w' hSw; go_simp <;> omega
          try simp only [ν1, ν2, ν3, ν4, ν5, ν6, ν7, ν8]
          refine wpAnyH_take (i := 23) (v := .bool true) rfl (by kernel_rfl) (by kernel_rfl) (by kernel_rfl) (fun _ _ _ h => h) (Or.inl ⟨by rfl, ?_⟩) hHeld ?_
          · intro w' hSw; go_simp <;> omega
          try simp only [ν1, ν2, ν3, ν4, ν5, ν6, ν7, ν8]
          refine wpAnyH_take (i := 24) (v := .bool true) rfl (by kernel_rfl) (by kernel_rfl) (by kernel_rfl) (fun _ _ _ h => h) (Or.inl ⟨by rfl, ?_⟩) hHeld ?_
          · intro w' hSw; go_simp <;> omega
          try simp only [ν1, ν2, ν3, ν4, ν5, ν6, ν7, ν8]
          refine wpAnyH_take (i := 25) (v := .slice (some ⟨b, off, none⟩) l.length cap) rfl (by kernel_rfl) (by kernel_rfl) (by kernel_rfl) (fun _ _ _ h => h) (Or.inl ⟨by rfl, ?_⟩) hHeld ?_
          · intro w' hSw; go_simp <;> omega
          try simp only [ν1, ν2, ν3, ν4, ν5, ν6, ν7, ν8]
          refine wpAnyH_take (i := 26) (v := .int .i64 ((k : Int))) rfl (by kernel_rfl) (by kernel_rfl) (by kernel_rfl) (fun _ _ _ h => h) (Or.inl ⟨by rfl, ?_⟩) hHeld ?_
          · intro w' hSw; go_simp <;> omega
          try simp only [ν1, ν2, ν3, ν4, ν5, ν6, ν7, ν8]
          refine wpAnyH_take (i := 27) (v := .int .i64 ((m : Int))) rfl (by kernel_rfl) (by kernel_rfl) (by kernel_rfl) (fun _ _ _ h => h) (Or.inl ⟨by rfl, ?_⟩) hHeld ?_
          · intro w' hSw; go_simp <;> omega
          try simp only [ν1, ν2, ν3, ν4, ν5, ν6, ν7, ν8]
          refine wpAnyH_take (i := 28) (v := .pointer (some ⟨b, off + m * 6, none⟩)) rfl (by kernel_rfl) (by kernel_rfl) (by kernel_rfl) (fun _ _ _ h => h) (Or.inl ⟨by rfl, ?_⟩) hHeld ?_
          · intro w' hSw; go_simp <;> omega
          try simp only [ν1, ν2, ν3, ν4, ν5, ν6, ν7, ν8]
          refine wpAnyH_take (i := 29) (v := .agg #[.int .i64 (p.e), .int .i64 (p.a), .int .i64 (p.v.kind), .int .i64 (p.v.n), .string ⟨p.v.s.toArray⟩, .slice ap p.sp.length cp]) rfl (by kernel_rfl) (by kernel_rfl) (by kernel_rfl) (fun _ _ _ h => h) (Or.inl ⟨by rfl, ?_⟩) hHeld ?_
          · intro w' hSw; have k0 := (World.cell?_of_block (hSw.block _ hba)).trans q0; have k1 := (World.cell?_of_block (hSw.block _ hba)).trans q1; have k2 := (World.cell?_of_block (hSw.block _ hba)).trans q2; have k3 := (World.cell?_of_block (hSw.block _ hba)).trans q3; have k4 := (World.cell?_of_block (hSw.block _ hba)).trans q4; have k5 := (World.cell?_of_block (hSw.block _ hba)).trans q5; go_simp
          try simp only [ν1, ν2, ν3, ν4, ν5, ν6, ν7, ν8]
          refine wpAnyH_take (i := 30) (v := .slice (some ⟨b, off, none⟩) l.length cap) rfl (by kernel_rfl) (by kernel_rfl) (by kernel_rfl) (fun _ _ _ h => h) (Or.inl ⟨by rfl, ?_⟩) hHeld ?_
          · intro w' hSw; go_simp <;> omega
          try simp only [ν1, ν2, ν3, ν4, ν5, ν6, ν7, ν8]
          refine wpAnyH_take (i := 31) (v := .int .i64 ((k : Int))) rfl (by kernel_rfl) (by kernel_rfl) (by kernel_rfl) (fun _ _ _ h => h) (Or.inl ⟨by rfl, ?_⟩) hHeld ?_
          · intro w' hSw; go_simp <;> omega
          try simp only [ν1, ν2, ν3, ν4, ν5, ν6, ν7, ν8]
          refine wpAnyH_take (i := 32) (v := .pointer (some ⟨b, off + k * 6, none⟩)) rfl (by kernel_rfl) (by kernel_rfl) (by kernel_rfl) (fun _ _ _ h => h) (Or.inl ⟨by rfl, ?_⟩) hHeld ?_
          · intro w' hSw; go_simp <;> omega
          try simp only [ν1, ν2, ν3, ν4, ν5, ν6, ν7, ν8]
          refine wpAnyH_take (i := 33) (v := .agg #[.int .i64 (x.e), .int .i64 (x.a), .int .i64 (x.v.kind), .int .i64 (x.v.n), .string ⟨x.v.s.toArray⟩, .slice ax x.sp.length cx]) rfl (by kernel_rfl) (by kernel_rfl) (by kernel_rfl) (fun _ _ _ h => h) (Or.inl ⟨by rfl, ?_⟩) hHeld ?_
          · intro w' hSw; have k0 := (World.cell?_of_block (hSw.block _ hba)).trans g0; have k1 := (World.cell?_of_block (hSw.block _ hba)).trans g1; have k2 := (World.cell?_of_block (hSw.block _ hba)).trans g2; have k3 := (World.cell?_of_block (hSw.block _ hba)).trans g3; have k4 := (World.cell?_of_block (hSw.block _ hba)).trans g4; have k5 := (World.cell?_of_block (hSw.block _ hba)).trans g5; go_simp
          try simp only [ν1, ν2, ν3, ν4, ν5, ν6, ν7, ν8]
          refine wpAnyH_ready (rs := [34]) (by kernel_rfl) (by simp) ?_
          refine allCall (f := 31) (args := #[.agg #[.int .i64 (p.e), .int .i64 (p.a), .int .i64 (p.v.kind), .int .i64 (p.v.n), .string ⟨p.v.s.toArray⟩, .slice ap p.sp.length cp], .agg #[.int .i64 (x.e), .int .i64 (x.a), .int .i64 (x.v.kind), .int .i64 (x.v.n), .string ⟨x.v.s.toArray⟩, .slice ax x.sp.length cx]]) rfl (by kernel_rfl) (by kernel_rfl) ?_ AllReadyH.nil
          refine fCompare_any p x _ _ wq2 hpl hxl _ (fun wq3 hB => ?_)
          refine ⟨_, rfl, hHeld.trans (hB.mono hHeld.size), ?_⟩
          have hHeld2 := hHeld.trans (hB.mono hHeld.size)
          clear hHeld
          have hHeld := hHeld2
          clear hHeld2
          clear hB
          try simp only [ν1, ν2, ν3, ν4, ν5, ν6, ν7, ν8]
          refine wpAnyH_take (i := 35) (v := .bool true) rfl (by kernel_rfl) (by kernel_rfl) (by kernel_rfl) (fun _ _ _ h => h) (Or.inl ⟨by rfl, ?_⟩) hHeld ?_
          · intro w' hSw; go_simp <;> omega
          try simp only [ν1, ν2, ν3, ν4, ν5, ν6, ν7, ν8]
          refine wpAnyH_take (i := 36) (v := .bool true) rfl (by kernel_rfl) (by kernel_rfl) (by kernel_rfl) (fun _ _ _ h => h) (Or.inl ⟨by rfl, ?_⟩) hHeld ?_
          · intro w' hSw; go_simp <;> omega
          try simp only [ν1, ν2, ν3, ν4, ν5, ν6, ν7, ν8]
          refine wpAnyH_take (i := 37) (v := .bool true) rfl (by kernel_rfl) (by kernel_rfl) (by kernel_rfl) (fun _ _ _ h => h) (Or.inl ⟨by rfl, ?_⟩) hHeld ?_
          · intro w' hSw; go_simp <;> omega
          try simp only [ν1, ν2, ν3, ν4, ν5, ν6, ν7, ν8]
          have hHeld0 := hHeld
          refine wpAnyH_done (by kernel_rfl) ?_ _
          clear hHeld
          have HB7 := Lib.hid (HBa.out.trans (hHeld0.mono HBa.out.size))
          clear hHeld0
          go_wp2_with fail
          exact fin (hR _ HB7.out) (show Value.bool _ = Value.bool _ by rw [factsB_false hlt (by rw [Ho.out, Hj.out, (may_set hmd (by omega)).trans hst]; simp; omega)])
      · clear hcc
        generalize hs : l[k] = x at *
        clear hs
        have k0 : (k : Int) ≤ 0 := by omega
        go_upto_region 4 with fail
        refine wp_region_held_drew (S := fun w' => Below wo.heap.size wo w') (by kernel_rfl) (Below.drew (Below.refl _ _)) (fun hHeld => ?_)
        refine wpAnyH_take (i := 0) (v := .slice (some ⟨b, off, none⟩) l.length cap) rfl (by kernel_rfl) (by kernel_rfl) (by kernel_rfl) (fun _ _ _ h => h) (Or.inl ⟨by rfl, ?_⟩) hHeld ?_
        · intro w' hSw; go_simp
        try simp only [ν1, ν2, ν3, ν4, ν5, ν6, ν7, ν8]
        refine wpAnyH_take (i := 1) (v := .int .i64 ((k : Int))) rfl (by kernel_rfl) (by kernel_rfl) (by kernel_rfl) (fun _ _ _ h => h) (Or.inl ⟨by rfl, ?_⟩) hHeld ?_
        · intro w' hSw; go_simp
        try simp only [ν1, ν2, ν3, ν4, ν5, ν6, ν7, ν8]
        refine wpAnyH_take (i := 2) (v := .pointer (some ⟨b, off + k * 6, none⟩)) rfl (by kernel_rfl) (by kernel_rfl) (by kernel_rfl) (fun _ _ _ h => h) (Or.inl ⟨by rfl, ?_⟩) hHeld ?_
        · intro w' hSw; go_simp
        try simp only [ν1, ν2, ν3, ν4, ν5, ν6, ν7, ν8]
        refine wpAnyH_take (i := 3) (v := .pointer (some ⟨b, off + k * 6, none⟩)) rfl (by kernel_rfl) (by kernel_rfl) (by kernel_rfl) (fun _ _ _ h => h) (Or.inl ⟨by rfl, ?_⟩) hHeld ?_
        · intro w' hSw; go_simp
        try simp only [ν1, ν2, ν3, ν4, ν5, ν6, ν7, ν8]
        refine wpAnyH_take (i := 4) (v := .int .i64 (x.e)) rfl (by kernel_rfl) (by kernel_rfl) (by kernel_rfl) (fun _ _ _ h => h) (Or.inl ⟨by rfl, ?_⟩) hHeld ?_
        · intro w' hSw; have kx := (World.cell?_of_block (hSw.block _ hbw)).trans h0; go_simp
        try simp only [ν1, ν2, ν3, ν4, ν5, ν6, ν7, ν8]
        refine wpAnyH_take (i := 5) (v := .slice (some ⟨b, off, none⟩) l.length cap) rfl (by kernel_rfl) (by kernel_rfl) (by kernel_rfl) (fun _ _ _ h => h) (Or.inl ⟨by rfl, ?_⟩) hHeld ?_
        · intro w' hSw; go_simp
        try simp only [ν1, ν2, ν3, ν4, ν5, ν6, ν7, ν8]
        refine wpAnyH_take (i := 6) (v := .int .i64 ((k : Int))) rfl (by kernel_rfl) (by kernel_rfl) (by kernel_rfl) (fun _ _ _ h => h) (Or.inl ⟨by rfl, ?_⟩) hHeld ?_
        · intro w' hSw; go_simp
        try simp only [ν1, ν2, ν3, ν4, ν5, ν6, ν7, ν8]
        refine wpAnyH_take (i := 7) (v := .pointer (some ⟨b, off + k * 6, none⟩)) rfl (by kernel_rfl) (by kernel_rfl) (by kernel_rfl) (fun _ _ _ h => h) (Or.inl ⟨by rfl, ?_⟩) hHeld ?_
        · intro w' hSw; go_simp
        try simp only [ν1, ν2, ν3, ν4, ν5, ν6, ν7, ν8]
        refine wpAnyH_take (i := 8) (v := .pointer (some ⟨b, off + k * 6 + 1, none⟩)) rfl (by kernel_rfl) (by kernel_rfl) (by kernel_rfl) (fun _ _ _ h => h) (Or.inl ⟨by rfl, ?_⟩) hHeld ?_
        · intro w' hSw; go_simp
        try simp only [ν1, ν2, ν3, ν4, ν5, ν6, ν7, ν8]
        refine wpAnyH_take (i := 9) (v := .int .i64 (x.a)) rfl (by kernel_rfl) (by kernel_rfl) (by kernel_rfl) (fun _ _ _ h => h) (Or.inl ⟨by rfl, ?_⟩) hHeld ?_
        · intro w' hSw; have kx := (World.cell?_of_block (hSw.block _ hbw)).trans h1; go_simp
        try simp only [ν1, ν2, ν3, ν4, ν5, ν6, ν7, ν8]
        refine wpAnyH_take (i := 10) (v := .slice (some ⟨b, off, none⟩) l.length cap) rfl (by kernel_rfl) (by kernel_rfl) (by kernel_rfl) (fun _ _ _ h => h) (Or.inl ⟨by rfl, ?_⟩) hHeld ?_
        · intro w' hSw; go_simp
        try simp only [ν1, ν2, ν3, ν4, ν5, ν6, ν7, ν8]
        refine wpAnyH_take (i := 11) (v := .int .i64 ((k : Int))) rfl (by kernel_rfl) (by kernel_rfl) (by kernel_rfl) (fun _ _ _ h => h) (Or.inl ⟨by rfl, ?_⟩) hHeld ?_
        · intro w' hSw; go_simp
        try simp only [ν1, ν2, ν3, ν4, ν5, ν6, ν7, ν8]
        refine wpAnyH_take (i := 12) (v := .pointer (some ⟨b, off + k * 6, none⟩)) rfl (by kernel_rfl) (by kernel_rfl) (by kernel_rfl) (fun _ _ _ h => h) (Or.inl ⟨by rfl, ?_⟩) hHeld ?_
        · intro w' hSw; go_simp
        try simp only [ν1, ν2, ν3, ν4, ν5, ν6, ν7, ν8]
        refine wpAnyH_take (i := 13) (v := .pointer (some ⟨b, off + k * 6 + 2, none⟩)) rfl (by kernel_rfl) (by kernel_rfl) (by kernel_rfl) (fun _ _ _ h => h) (Or.inl ⟨by rfl, ?_⟩) hHeld ?_
        · intro w' hSw; go_simp
        try simp only [ν1, ν2, ν3, ν4, ν5, ν6, ν7, ν8]
        refine wpAnyH_take (i := 14) (v := .agg #[.int .i64 (x.v.kind), .int .i64 (x.v.n), .string ⟨x.v.s.toArray⟩]) rfl (by kernel_rfl) (by kernel_rfl) (by kernel_rfl) (fun _ _ _ h => h) (Or.inl ⟨by rfl, ?_⟩) hHeld ?_
        · intro w' hSw; have k2 := (World.cell?_of_block (hSw.block _ hbw)).trans h2; have k3 := (World.cell?_of_block (hSw.block _ hbw)).trans h3; have k4 := (World.cell?_of_block (hSw.block _ hbw)).trans h4; go_simp
        try simp only [ν1, ν2, ν3, ν4, ν5, ν6, ν7, ν8]
        refine wpAnyH_take (i := 15) (v := .agg #[.int .i64 (x.e), .int .i64 (x.a), .int .i64 (x.v.kind), .int .i64 (x.v.n), .string ⟨x.v.s.toArray⟩, .int .i64 1, .bool false, .int .i64 0, .int .i64 1]) rfl (by kernel_rfl) (by kernel_rfl) (by kernel_rfl) (fun _ _ _ h => h) (Or.inl ⟨by rfl, ?_⟩) hHeld ?_
        · intro w' hSw; go_simp
        try simp only [ν1, ν2, ν3, ν4, ν5, ν6, ν7, ν8]
        refine wpAnyH_ready (rs := [16]) (by kernel_rfl) (by simp) ?_
        refine allVal (v := .pointer (some ⟨wo.heap.size, 0, none⟩)) (w' := wo.drew.alloc (.cells #[.int .i64 0, .int .i64 0, .int .i64 0, .int .i64 0, .string ⟨#[]⟩, .int .i64 0, .bool false, .int .i64 0, .int .i64 0] 74)) rfl (by kernel_rfl) ?_ (hHeld.alloc hHeld.size _) ?_ AllReadyH.nil
        · go_simp
        try simp only [ν1, ν2, ν3, ν4, ν5, ν6, ν7, ν8]
        have hHeld2 := hHeld.alloc hHeld.size (.cells #[.int .i64 0, .int .i64 0, .int .i64 0, .int .i64 0, .string ⟨#[]⟩, .int .i64 0, .bool false, .int .i64 0, .int .i64 0] 74)
        have hHeld3 := hHeld.alloc hHeld.size (.cells #[.int .i64 x.e, .int .i64 x.a, .int .i64 x.v.kind, .int .i64 x.v.n, .string ⟨x.v.s.toArray⟩, .int .i64 1, .bool false, .int .i64 0, .int .i64 1] 74)
        clear hHeld
        have hHeld := hHeld2
        clear hHeld2
        refine wpAnyH_ready (rs := [17]) (by kernel_rfl) (by simp) ?_
        refine allSkip (w' := wo.drew.alloc (.cells #[.int .i64 x.e, .int .i64 x.a, .int .i64 x.v.kind, .int .i64 x.v.n, .string ⟨x.v.s.toArray⟩, .int .i64 1, .bool false, .int .i64 0, .int .i64 1] 74)) rfl (by kernel_rfl) ?_ hHeld3 ?_ AllReadyH.nil
        · go_simp
        try simp only [ν1, ν2, ν3, ν4, ν5, ν6, ν7, ν8]
        have hbk := Blk.new wo.drew [.int .i64 x.e, .int .i64 x.a, .int .i64 x.v.kind, .int .i64 x.v.n, .string ⟨x.v.s.toArray⟩, .int .i64 1, .bool false, .int .i64 0, .int .i64 1] 74 (n := wo.heap.size) rfl
        have hHeld := hHeld3
        have hal := hHeld3
        clear hHeld3
        refine wpAnyH_done (by kernel_rfl) ?_ _
        clear hHeld
        generalize wo.drew.alloc (.cells #[.int .i64 x.e, .int .i64 x.a, .int .i64 x.v.kind, .int .i64 x.v.n, .string ⟨x.v.s.toArray⟩, .int .i64 1, .bool false, .int .i64 0, .int .i64 1] 74) = wa at *
        obtain ⟨y0, y1, y2, y3, y4, y5, y6, y7, y8⟩ := hbk.cells.c9
        have hy1 := hbk.lt
        have hba : b < wa.heap.size := Nat.lt_of_lt_of_le hbw hal.size
        have g0 := (World.cell?_of_block (hal.block b hbw)).trans h0
        have g1 := (World.cell?_of_block (hal.block b hbw)).trans h1
        have g2 := (World.cell?_of_block (hal.block b hbw)).trans h2
        have g3 := (World.cell?_of_block (hal.block b hbw)).trans h3
        have g4 := (World.cell?_of_block (hal.block b hbw)).trans h4
        have g5 := (World.cell?_of_block (hal.block b hbw)).trans h5
        have HBa := Lib.hid (HB.out.trans (hal.mono hz))
        have hha : hi ≤ wa.heap.size := Nat.le_trans hhi HBa.out.size
        have hSp : Hid (∀ w', Below wa.heap.size wa w' → Spans lo hi w' (.slice ax x.sp.length cx) x.sp) := Lib.hid (fun w' h => Sl.below (Sl.below Hsv.out Sp.loc hal (by omega)) Sp.loc h hha)
        clear hal hbk h0 h1 h2 h3 h4 h5 Hsv
        go_upto_region 5 with fail
        cases hmd : mayD x.e x.a x.v
        ·
          refine wp_region_held_drew (S := fun w' => Below wa.heap.size wa w') (by kernel_rfl) (Below.drew (Below.refl _ _)) (fun hHeld => ?_)
          refine wpAnyH_take (i := 0) (v := .agg #[.int .i64 (x.e), .int .i64 (x.a), .int .i64 (x.v.kind), .int .i64 (x.v.n), .string ⟨x.v.s.toArray⟩, .int .i64 1, .bool false, .int .i64 0, .int .i64 1]) rfl (by kernel_rfl) (by kernel_rfl) (by kernel_rfl) (fun _ _ _ h => h) (Or.inl ⟨by rfl, ?_⟩) hHeld ?_
          · intro w' hSw; have k0 := (World.cell?_of_block (hSw.block _ hy1)).trans y0; have k1 := (World.cell?_of_block (hSw.block _ hy1)).trans y1; have k2 := (World.cell?_of_block (hSw.block _ hy1)).trans y2; have k3 := (World.cell?_of_block (hSw.block _ hy1)).trans y3; have k4 := (World.cell?_of_block (hSw.block _ hy1)).trans y4; have k5 := (World.cell?_of_block (hSw.block _ hy1)).trans y5; have k6 := (World.cell?_of_block (hSw.block _ hy1)).trans y6; have k7 := (World.cell?_of_block (hSw.block _ hy1)).trans y7; have k8 := (World.cell?_of_block (hSw.block _ hy1)).trans y8; go_simp
          try simp only [ν1, ν2, ν3, ν4, ν5, ν6, ν7, ν8]
          refine wpAnyH_ready (rs := [1]) (by kernel_rfl) (by simp) ?_
          refine allCall (f := 29) (args := #[.agg #[.int .i64 (x.e), .int .i64 (x.a), .int .i64 (x.v.kind), .int .i64 (x.v.n), .string ⟨x.v.s.toArray⟩, .int .i64 1, .bool false, .int .i64 0, .int .i64 1]]) rfl (by kernel_rfl) (by kernel_rfl) ?_ AllReadyH.nil
          refine dMay_any x.e x.a x.v wa.drew hxl _ (fun wq1 hB => ?_)
          rw [hmd]
          refine ⟨_, rfl, hHeld.trans (hB.mono hHeld.size), ?_⟩
          have hHeld2 := hHeld.trans (hB.mono hHeld.size)
          clear hHeld
          have hHeld := hHeld2
          clear hHeld2
          clear hB
          try simp only [ν1, ν2, ν3, ν4, ν5, ν6, ν7, ν8]
          refine wpAnyH_take (i := 2) (v := .bool true) rfl (by kernel_rfl) (by kernel_rfl) (by kernel_rfl) (fun _ _ _ h => h) (Or.inl ⟨by rfl, ?_⟩) hHeld ?_
          · intro w' hSw; go_simp <;> omega
          try simp only [ν1, ν2, ν3, ν4, ν5, ν6, ν7, ν8]
          refine wpAnyH_take (i := 3) (v := .bool true) rfl (by kernel_rfl) (by kernel_rfl) (by kernel_rfl) (fun _ _ _ h => h) (Or.inl ⟨by rfl, ?_⟩) hHeld ?_
          · intro w' hSw; go_simp <;> omega
          try simp only [ν1, ν2, ν3, ν4, ν5, ν6, ν7, ν8]
          refine wpAnyH_take (i := 4) (v := undef) rfl (by kernel_rfl) (by kernel_rfl) (by kernel_rfl) (fun _ _ _ h => h) (Or.inr ⟨by kernel_rfl, rfl⟩) hHeld ?_
          try simp only [ν1, ν2, ν3, ν4, ν5, ν6, ν7, ν8]
          refine wpAnyH_take (i := 5) (v := undef) rfl (by kernel_rfl) (by kernel_rfl) (by kernel_rfl) (fun _ _ _ h => h) (Or.inr ⟨by kernel_rfl, rfl⟩) hHeld ?_
          try simp only [ν1, ν2, ν3, ν4, ν5, ν6, ν7, ν8]
          refine wpAnyH_take (i := 6) (v := undef) rfl (by kernel_rfl) (by kernel_rfl) (by kernel_rfl) (fun _ _ _ h => h) (Or.inr ⟨by kernel_rfl, rfl⟩) hHeld ?_
          try simp only [ν1, ν2, ν3, ν4, ν5, ν6, ν7, ν8]
          refine wpAnyH_take (i := 7) (v := undef) rfl (by kernel_rfl) (by kernel_rfl) (by kernel_rfl) (fun _ _ _ h => h) (Or.inr ⟨by kernel_rfl, rfl⟩) hHeld ?_
          try simp only [ν1, ν2, ν3, ν4, ν5, ν6, ν7, ν8]
          refine wpAnyH_take (i := 8) (v := undef) rfl (by kernel_rfl) (by kernel_rfl) (by kernel_rfl) (fun _ _ _ h => h) (Or.inr ⟨by kernel_rfl, rfl⟩) hHeld ?_
          try simp only [ν1, ν2, ν3, ν4, ν5, ν6, ν7, ν8]
          refine wpAnyH_take (i := 9) (v := undef) rfl (by kernel_rfl) (by kernel_rfl) (by kernel_rfl) (fun _ _ _ h => h) (Or.inr ⟨by kernel_rfl, rfl⟩) hHeld ?_
          try simp only [ν1, ν2, ν3, ν4, ν5, ν6, ν7, ν8]
          refine wpAnyH_take (i := 10) (v := undef) rfl (by kernel_rfl) (by kernel_rfl) (by kernel_rfl) (fun _ _ _ h => h) (Or.inr ⟨by kernel_rfl, rfl⟩) hHeld ?_
          try simp only [ν1, ν2, ν3, ν4, ν5, ν6, ν7, ν8]
          refine wpAnyH_take (i := 11) (v := .bool true) rfl (by kernel_rfl) (by kernel_rfl) (by kernel_rfl) (fun _ _ _ h => h) (Or.inl ⟨by rfl, ?_⟩) hHeld ?_
          · intro w' hSw; go_simp <;> omega
          try simp only [ν1, ν2, ν3, ν4, ν5, ν6, ν7, ν8]
          refine wpAnyH_take (i := 12) (v := .bool true) rfl (by kernel_rfl) (by kernel_rfl) (by kernel_rfl) (fun _ _ _ h => h) (Or.inl ⟨by rfl, ?_⟩) hHeld ?_
          · intro w' hSw; go_simp <;> omega
          try simp only [ν1, ν2, ν3, ν4, ν5, ν6, ν7, ν8]
          refine wpAnyH_take (i := 13) (v := undef) rfl (by kernel_rfl) (by kernel_rfl) (by kernel_rfl) (fun _ _ _ h => h) (Or.inr ⟨by kernel_rfl, rfl⟩) hHeld ?_
          try simp only [ν1, ν2, ν3, ν4, ν5, ν6, ν7, ν8]
          refine wpAnyH_take (i := 14) (v := undef) rfl (by kernel_rfl) (by kernel_rfl) (by kernel_rfl) (fun _ _ _ h => h) (Or.inr ⟨by kernel_rfl, rfl⟩) hHeld ?_
          try simp only [ν1, ν2, ν3, ν4, ν5, ν6, ν7, ν8]
          refine wpAnyH_take (i := 15) (v := undef) rfl (by kernel_rfl) (by kernel_rfl) (by kernel_rfl) (fun _ _ _ h => h) (Or.inr ⟨by kernel_rfl, rfl⟩) hHeld ?_
          try simp only [ν1, ν2, ν3, ν4, ν5, ν6, ν7, ν8]
          refine wpAnyH_take (i := 16) (v := undef) rfl (by kernel_rfl) (by kernel_rfl) (by kernel_rfl) (fun _ _ _ h => h) (Or.inr ⟨by kernel_rfl, rfl⟩) hHeld ?_
          try simp only [ν1, ν2, ν3, ν4, ν5, ν6, ν7, ν8]
          refine wpAnyH_take (i := 17) (v := undef) rfl (by kernel_rfl) (by kernel_rfl) (by kernel_rfl) (fun _ _ _ h => h) (Or.inr ⟨by kernel_rfl, rfl⟩) hHeld ?_
          try simp only [ν1, ν2, ν3, ν4, ν5, ν6, ν7, ν8]
          refine wpAnyH_take (i := 18) (v := undef) rfl (by kernel_rfl) (by kernel_rfl) (by kernel_rfl) (fun _ _ _ h => h) (Or.inr ⟨by kernel_rfl, rfl⟩) hHeld ?_
          try simp only [ν1, ν2, ν3, ν4, ν5, ν6, ν7, ν8]
          refine wpAnyH_take (i := 19) (v := undef) rfl (by kernel_rfl) (by kernel_rfl) (by kernel_rfl) (fun _ _ _ h => h) (Or.inr ⟨by kernel_rfl, rfl⟩) hHeld ?_
          try simp only [ν1, ν2, ν3, ν4, ν5, ν6, ν7, ν8]
          refine wpAnyH_take (i := 20) (v := .bool true) rfl (by kernel_rfl) (by kernel_rfl) (by kernel_rfl) (fun _ _ _ h => h) (Or.inl ⟨by rfl, ?_⟩) hHeld ?_
          · intro w' hSw; go_simp <;> omega
          try simp only [ν1, ν2, ν3, ν4, ν5, ν6, ν7, ν8]
          refine wpAnyH_take (i := 21) (v := .bool true) rfl (by kernel_rfl) (by kernel_rfl) (by kernel_rfl) (fun _ _ _ h => h) (Or.inl ⟨by rfl, ?_⟩) hHeld ?_
          · intro w' hSw; go_simp <;> omega
          try simp only [ν1, ν2, ν3, ν4, ν5, ν6, ν7, ν8]
          refine wpAnyH_take (i := 22) (v := undef) rfl (by kernel_rfl) (by kernel_rfl) (by kernel_rfl) (fun _ _ _ h => h) (Or.inr ⟨by kernel_rfl, rfl⟩) hHeld ?_
          try simp only [ν1, ν2, ν3, ν4, ν5, ν6, ν7, ν8]
          refine wpAnyH_take (i := 23) (v := undef) rfl (by kernel_rfl) (by kernel_rfl) (by kernel_rfl) (fun _ _ _ h => h) (Or.inr ⟨by kernel_rfl, rfl⟩) hHeld ?_
          try simp only [ν1, ν2, ν3, ν4, ν5, ν6, ν7, ν8]
          refine wpAnyH_take (i := 24) (v := undef) rfl (by kernel_rfl) (by kernel_rfl) (by kernel_rfl) (fun _ _ _ h => h) (Or.inr ⟨by kernel_rfl, rfl⟩) hHeld ?_
          try simp only [ν1, ν2, ν3, ν4, ν5, ν6, ν7, ν8]
          refine wpAnyH_take (i := 25) (v := undef) rfl (by kernel_rfl) (by kernel_rfl) (by kernel_rfl) (fun _ _ _ h => h) (Or.inr ⟨by kernel_rfl, rfl⟩) hHeld ?_
          try simp only [ν1, ν2, ν3, ν4, ν5, ν6, ν7, ν8]
          refine wpAnyH_take (i := 26) (v := undef) rfl (by kernel_rfl) (by kernel_rfl) (by kernel_rfl) (fun _ _ _ h => h) (Or.inr ⟨by kernel_rfl, rfl⟩) hHeld ?_
          try simp only [ν1, ν2, ν3, ν4, ν5, ν6, ν7, ν8]
          refine wpAnyH_take (i := 27) (v := undef) rfl (by kernel_rfl) (by kernel_rfl) (by kernel_rfl) (fun _ _ _ h => h) (Or.inr ⟨by kernel_rfl, rfl⟩) hHeld ?_
          try simp only [ν1, ν2, ν3, ν4, ν5, ν6, ν7, ν8]
          refine wpAnyH_take (i := 28) (v := undef) rfl (by kernel_rfl) (by kernel_rfl) (by kernel_rfl) (fun _ _ _ h => h) (Or.inr ⟨by kernel_rfl, rfl⟩) hHeld ?_
          try simp only [ν1, ν2, ν3, ν4, ν5, ν6, ν7, ν8]
          refine wpAnyH_take (i := 29) (v := undef) rfl (by kernel_rfl) (by kernel_rfl) (by kernel_rfl) (fun _ _ _ h => h) (Or.inr ⟨by kernel_rfl, rfl⟩) hHeld ?_
          try simp only [ν1, ν2, ν3, ν4, ν5, ν6, ν7, ν8]
          refine wpAnyH_take (i := 30) (v := undef) rfl (by kernel_rfl) (by kernel_rfl) (by kernel_rfl) (fun _ _ _ h => h) (Or.inr ⟨by kernel_rfl, rfl⟩) hHeld ?_
          try simp only [ν1, ν2, ν3, ν4, ν5, ν6, ν7, ν8]
          refine wpAnyH_take (i := 31) (v := undef) rfl (by kernel_rfl) (by kernel_rfl) (by kernel_rfl) (fun _ _ _ h => h) (Or.inr ⟨by kernel_rfl, rfl⟩) hHeld ?_
          try simp only [ν1, ν2, ν3, ν4, ν5, ν6, ν7, ν8]
          refine wpAnyH_take (i := 32) (v := undef) rfl (by kernel_rfl) (by kernel_rfl) (by kernel_rfl) (fun _ _ _ h => h) (Or.inr ⟨by kernel_rfl, rfl⟩) hHeld ?_
          try simp only [ν1, ν2, ν3, ν4, ν5, ν6, ν7, ν8]
          refine wpAnyH_take (i := 33) (v := undef) rfl (by kernel_rfl) (by kernel_rfl) (by kernel_rfl) (fun _ _ _ h => h) (Or.inr ⟨by kernel_rfl, rfl⟩) hHeld ?_
          try simp only [ν1, ν2, ν3, ν4, ν5, ν6, ν7, ν8]
          refine wpAnyH_take (i := 34) (v := undef) rfl (by kernel_rfl) (by kernel_rfl) (by kernel_rfl) (fun _ _ _ h => h) (Or.inr ⟨by kernel_rfl, rfl⟩) hHeld ?_
          try simp only [ν1, ν2, ν3, ν4, ν5, ν6, ν7, ν8]
          refine wpAnyH_take (i := 35) (v := undef) rfl (by kernel_rfl) (by kernel_rfl) (by kernel_rfl) (fun _ _ _ h => h) (Or.inr ⟨by kernel_rfl, rfl⟩) hHeld ?_
          try simp only [ν1, ν2, ν3, ν4, ν5, ν6, ν7, ν8]
          refine wpAnyH_take (i := 36) (v := undef) rfl (by kernel_rfl) (by kernel_rfl) (by kernel_rfl) (fun _ _ _ h => h) (Or.inr ⟨by kernel_rfl, rfl⟩) hHeld ?_
          try simp only [ν1, ν2, ν3, ν4, ν5, ν6, ν7, ν8]
          refine wpAnyH_take (i := 37) (v := .bool true) rfl (by kernel_rfl) (by kernel_rfl) (by kernel_rfl) (fun _ _ _ h => h) (Or.inl ⟨by rfl, ?_⟩) hHeld ?_
          · intro w' hSw; go_simp <;> omega
          try simp only [ν1, ν2, ν3, ν4, ν5, ν6, ν7, ν8]
          have hHeld0 := hHeld
          refine wpAnyH_done (by kernel_rfl) ?_ _
          clear hHeld
          have HB7 := Lib.hid (HBa.out.trans (hHeld0.mono HBa.out.size))
          clear hHeld0
          go_wp2_with fail
          exact fin (hR _ HB7.out) (show Value.bool _ = Value.bool _ by rw [factsB_false hlt (by rw [Ho.out, may_false1 hmd]; rfl)])
        by_cases hne : x.sp.length = 0
        · have k7 : (x.sp.length : Int) = 0 := by omega
          refine wp_region_held_drew (S := fun w' => Below wa.heap.size wa w') (by kernel_rfl) (Below.drew (Below.refl _ _)) (fun hHeld => ?_)
          refine wpAnyH_take (i := 0) (v := .agg #[.int .i64 (x.e), .int .i64 (x.a), .int .i64 (x.v.kind), .int .i64 (x.v.n), .string ⟨x.v.s.toArray⟩, .int .i64 1, .bool false, .int .i64 0, .int .i64 1]) rfl (by kernel_rfl) (by kernel_rfl) (by kernel_rfl) (fun _ _ _ h => h) (Or.inl ⟨by rfl, ?_⟩) hHeld ?_
          · intro w' hSw; have k0 := (World.cell?_of_block (hSw.block _ hy1)).trans y0; have k1 := (World.cell?_of_block (hSw.block _ hy1)).trans y1; have k2 := (World.cell?_of_block (hSw.block _ hy1)).trans y2; have k3 := (World.cell?_of_block (hSw.block _ hy1)).trans y3; have k4 := (World.cell?_of_block (hSw.block _ hy1)).trans y4; have k5 := (World.cell?_of_block (hSw.block _ hy1)).trans y5; have k6 := (World.cell?_of_block (hSw.block _ hy1)).trans y6; have k7 := (World.cell?_of_block (hSw.block _ hy1)).trans y7; have k8 := (World.cell?_of_block (hSw.block _ hy1)).trans y8; go_simp
          try simp only [ν1, ν2, ν3, ν4, ν5, ν6, ν7, ν8]
          refine wpAnyH_ready (rs := [1]) (by kernel_rfl) (by simp) ?_
          refine allCall (f := 29) (args := #[.agg #[.int .i64 (x.e), .int .i64 (x.a), .int .i64 (x.v.kind), .int .i64 (x.v.n), .string ⟨x.v.s.toArray⟩, .int .i64 1, .bool false, .int .i64 0, .int .i64 1]]) rfl (by kernel_rfl) (by kernel_rfl) ?_ AllReadyH.nil
          refine dMay_any x.e x.a x.v wa.drew hxl _ (fun wq1 hB => ?_)
          rw [hmd]
          refine ⟨_, rfl, hHeld.trans (hB.mono hHeld.size), ?_⟩
          have hHeld2 := hHeld.trans (hB.mono hHeld.size)
          clear hHeld
          have hHeld := hHeld2
          clear hHeld2
          clear hB
          try simp only [ν1, ν2, ν3, ν4, ν5, ν6, ν7, ν8]
          refine wpAnyH_take (i := 2) (v := .bool false) rfl (by kernel_rfl) (by kernel_rfl) (by kernel_rfl) (fun _ _ _ h => h) (Or.inl ⟨by rfl, ?_⟩) hHeld ?_
          · intro w' hSw; go_simp <;> omega
          try simp only [ν1, ν2, ν3, ν4, ν5, ν6, ν7, ν8]
          refine wpAnyH_take (i := 3) (v := .bool false) rfl (by kernel_rfl) (by kernel_rfl) (by kernel_rfl) (fun _ _ _ h => h) (Or.inl ⟨by rfl, ?_⟩) hHeld ?_
          · intro w' hSw; go_simp <;> omega
          try simp only [ν1, ν2, ν3, ν4, ν5, ν6, ν7, ν8]
          refine wpAnyH_take (i := 4) (v := .slice (some ⟨b, off, none⟩) l.length cap) rfl (by kernel_rfl) (by kernel_rfl) (by kernel_rfl) (fun _ _ _ h => h) (Or.inl ⟨by rfl, ?_⟩) hHeld ?_
          · intro w' hSw; go_simp <;> omega
          try simp only [ν1, ν2, ν3, ν4, ν5, ν6, ν7, ν8]
          refine wpAnyH_take (i := 5) (v := .int .i64 ((k : Int))) rfl (by kernel_rfl) (by kernel_rfl) (by kernel_rfl) (fun _ _ _ h => h) (Or.inl ⟨by rfl, ?_⟩) hHeld ?_
          · intro w' hSw; go_simp <;> omega
          try simp only [ν1, ν2, ν3, ν4, ν5, ν6, ν7, ν8]
          refine wpAnyH_take (i := 6) (v := .pointer (some ⟨b, off + k * 6, none⟩)) rfl (by kernel_rfl) (by kernel_rfl) (by kernel_rfl) (fun _ _ _ h => h) (Or.inl ⟨by rfl, ?_⟩) hHeld ?_
          · intro w' hSw; go_simp <;> omega
          try simp only [ν1, ν2, ν3, ν4, ν5, ν6, ν7, ν8]
          refine wpAnyH_take (i := 7) (v := .pointer (some ⟨b, off + k * 6 + 5, none⟩)) rfl (by kernel_rfl) (by kernel_rfl) (by kernel_rfl) (fun _ _ _ h => h) (Or.inl ⟨by rfl, ?_⟩) hHeld ?_
          · intro w' hSw; go_simp <;> omega
          try simp only [ν1, ν2, ν3, ν4, ν5, ν6, ν7, ν8]
          refine wpAnyH_take (i := 8) (v := .slice ax x.sp.length cx) rfl (by kernel_rfl) (by kernel_rfl) (by kernel_rfl) (fun _ _ _ h => h) (Or.inl ⟨by rfl, ?_⟩) hHeld ?_
          · intro w' hSw; have kx := (World.cell?_of_block (hSw.block _ hba)).trans g5; go_simp
          try simp only [ν1, ν2, ν3, ν4, ν5, ν6, ν7, ν8]
          refine wpAnyH_take (i := 9) (v := .int .i64 ((x.sp.length : Int))) rfl (by kernel_rfl) (by kernel_rfl) (by kernel_rfl) (fun _ _ _ h => h) (Or.inl ⟨by rfl, ?_⟩) hHeld ?_
          · intro w' hSw; go_simp <;> omega
          try simp only [ν1, ν2, ν3, ν4, ν5, ν6, ν7, ν8]
          refine wpAnyH_take (i := 10) (v := .bool true) rfl (by kernel_rfl) (by kernel_rfl) (by kernel_rfl) (fun _ _ _ h => h) (Or.inl ⟨by rfl, ?_⟩) hHeld ?_
          · intro w' hSw; go_simp <;> omega
          try simp only [ν1, ν2, ν3, ν4, ν5, ν6, ν7, ν8]
          refine wpAnyH_take (i := 11) (v := .bool true) rfl (by kernel_rfl) (by kernel_rfl) (by kernel_rfl) (fun _ _ _ h => h) (Or.inl ⟨by rfl, ?_⟩) hHeld ?_
          · intro w' hSw; go_simp <;> omega
          try simp only [ν1, ν2, ν3, ν4, ν5, ν6, ν7, ν8]
          refine wpAnyH_take (i := 12) (v := .bool true) rfl (by kernel_rfl) (by kernel_rfl) (by kernel_rfl) (fun _ _ _ h => h) (Or.inl ⟨by rfl, ?_⟩) hHeld ?_
          · intro w' hSw; go_simp <;> omega
          try simp only [ν1, ν2, ν3, ν4, ν5, ν6, ν7, ν8]
          refine wpAnyH_take (i := 13) (v := undef) rfl (by kernel_rfl) (by kernel_rfl) (by kernel_rfl) (fun _ _ _ h => h) (Or.inr ⟨by kernel_rfl, rfl⟩) hHeld ?_
          try simp only [ν1, ν2, ν3, ν4, ν5, ν6, ν7, ν8]
          refine wpAnyH_take (i := 14) (v := undef) rfl (by kernel_rfl) (by kernel_rfl) (by kernel_rfl) (fun _ _ _ h => h) (Or.inr ⟨by kernel_rfl, rfl⟩) hHeld ?_
          try simp only [ν1, ν2, ν3, ν4, ν5, ν6, ν7, ν8]
          refine wpAnyH_take (i := 15) (v := undef) rfl (by kernel_rfl) (by kernel_rfl) (by kernel_rfl) (fun _ _ _ h => h) (Or.inr ⟨by kernel_rfl, rfl⟩) hHeld ?_
          try simp only [ν1, ν2, ν3, ν4, ν5, ν6, ν7, ν8]
          refine wpAnyH_take (i := 16) (v := undef) rfl (by kernel_rfl) (by kernel_rfl) (by kernel_rfl) (fun _ _ _ h => h) (Or.inr ⟨by kernel_rfl, rfl⟩) hHeld ?_
          try simp only [ν1, ν2, ν3, ν4, ν5, ν6, ν7, ν8]
          refine wpAnyH_take (i := 17) (v := undef) rfl (by kernel_rfl) (by kernel_rfl) (by kernel_rfl) (fun _ _ _ h => h) (Or.inr ⟨by kernel_rfl, rfl⟩) hHeld ?_
          try simp only [ν1, ν2, ν3, ν4, ν5, ν6, ν7, ν8]
          refine wpAnyH_take (i := 18) (v := undef) rfl (by kernel_rfl) (by kernel_rfl) (by kernel_rfl) (fun _ _ _ h => h) (Or.inr ⟨by kernel_rfl, rfl⟩) hHeld ?_
          try simp only [ν1, ν2, ν3, ν4, ν5, ν6, ν7, ν8]
          refine wpAnyH_take (i := 19) (v := undef) rfl (by kernel_rfl) (by kernel_rfl) (by kernel_rfl) (fun _ _ _ h => h) (Or.inr ⟨by kernel_rfl, rfl⟩) hHeld ?_
          try simp only [ν1, ν2, ν3, ν4, ν5, ν6, ν7, ν8]
          refine wpAnyH_take (i := 20) (v := .bool true) rfl (by kernel_rfl) (by kernel_rfl) (by kernel_rfl) (fun _ _ _ h => h) (Or.inl ⟨by rfl, ?_⟩) hHeld ?_
          · intro w' hSw; go_simp <;> omega
          try simp only [ν1, ν2, ν3, ν4, ν5, ν6, ν7, ν8]
          refine wpAnyH_take (i := 21) (v := .bool true) rfl (by kernel_rfl) (by kernel_rfl) (by kernel_rfl) (fun _ _ _ h => h) (Or.inl ⟨by rfl, ?_⟩) hHeld ?_
          · intro w' hSw; go_simp <;> omega
          try simp only [ν1, ν2, ν3, ν4, ν5, ν6, ν7, ν8]
          refine wpAnyH_take (i := 22) (v := undef) rfl (by kernel_rfl) (by kernel_rfl) (by kernel_rfl) (fun _ _ _ h => h) (Or.inr ⟨by kernel_rfl, rfl⟩) hHeld ?_
          try simp only [ν1, ν2, ν3, ν4, ν5, ν6, ν7, ν8]
          refine wpAnyH_take (i := 23) (v := undef) rfl (by kernel_rfl) (by kernel_rfl) (by kernel_rfl) (fun _ _ _ h => h) (Or.inr ⟨by kernel_rfl, rfl⟩) hHeld ?_
          try simp only [ν1, ν2, ν3, ν4, ν5, ν6, ν7, ν8]
          refine wpAnyH_take (i := 24) (v := undef) rfl (by kernel_rfl) (by kernel_rfl) (by kernel_rfl) (fun _ _ _ h => h) (Or.inr ⟨by kernel_rfl, rfl⟩) hHeld ?_
          try simp only [ν1, ν2, ν3, ν4, ν5, ν6, ν7, ν8]
          refine wpAnyH_take (i := 25) (v := undef) rfl (by kernel_rfl) (by kernel_rfl) (by kernel_rfl) (fun _ _ _ h => h) (Or.inr ⟨by kernel_rfl, rfl⟩) hHeld ?_
          try simp only [ν1, ν2, ν3, ν4, ν5, ν6, ν7, ν8]
          refine wpAnyH_take (i := 26) (v := undef) rfl (by kernel_rfl) (by kernel_rfl) (by kernel_rfl) (fun _ _ _ h => h) (Or.inr ⟨by kernel_rfl, rfl⟩) hHeld ?_
          try simp only [ν1, ν2, ν3, ν4, ν5, ν6, ν7, ν8]
          refine wpAnyH_take (i := 27) (v := undef) rfl (by kernel_rfl) (by kernel_rfl) (by kernel_rfl) (fun _ _ _ h => h) (Or.inr ⟨by kernel_rfl, rfl⟩) hHeld ?_
          try simp only [ν1, ν2, ν3, ν4, ν5, ν6, ν7, ν8]
          refine wpAnyH_take (i := 28) (v := undef) rfl (by kernel_rfl) (by kernel_rfl) (by kernel_rfl) (fun _ _ _ h => h) (Or.inr ⟨by kernel_rfl, rfl⟩) hHeld ?_
          try simp only [ν1, ν2, ν3, ν4, ν5, ν6, ν7, ν8]
          refine wpAnyH_take (i := 29) (v := undef) rfl (by kernel_rfl) (by kernel_rfl) (by kernel_rfl) (fun _ _ _ h => h) (Or.inr ⟨by kernel_rfl, rfl⟩) hHeld ?_
          try simp only [ν1, ν2, ν3, ν4, ν5, ν6, ν7, ν8]
          refine wpAnyH_take (i := 30) (v := undef) rfl (by kernel_rfl) (by kernel_rfl) (by kernel_rfl) (fun _ _ _ h => h) (Or.inr ⟨by kernel_rfl, rfl⟩) hHeld ?_
          try simp only [ν1, ν2, ν3, ν4, ν5, ν6, ν7, ν8]
          refine wpAnyH_take (i := 31) (v := undef) rfl (by kernel_rfl) (by kernel_rfl) (by kernel_rfl) (fun _ _ _ h => h) (Or.inr ⟨by kernel_rfl, rfl⟩) hHeld ?_
          try simp only [ν1, ν2, ν3, ν4, ν5, ν6, ν7, ν8]
          refine wpAnyH_take (i := 32) (v := undef) rfl (by kernel_rfl) (by kernel_rfl) (by kernel_rfl) (fun _ _ _ h => h) (Or.inr ⟨by kernel_rfl, rfl⟩) hHeld ?_
          try simp only [ν1, ν2, ν3, ν4, ν5, ν6, ν7, ν8]
          refine wpAnyH_take (i := 33) (v := undef) rfl (by kernel_rfl) (by kernel_rfl) (by kernel_rfl) (fun _ _ _ h => h) (Or.inr ⟨by kernel_rfl, rfl⟩) hHeld ?_
          try simp only [ν1, ν2, ν3, ν4, ν5, ν6, ν7, ν8]
          refine wpAnyH_take (i := 34) (v := undef) rfl (by kernel_rfl) (by kernel_rfl) (by kernel_rfl) (fun _ _ _ h => h) (Or.inr ⟨by kernel_rfl, rfl⟩) hHeld ?_
          try simp only [ν1, ν2, ν3, ν4, ν5, ν6, ν7, ν8]
          refine wpAnyH_take (i := 35) (v := undef) rfl (by kernel_rfl) (by kernel_rfl) (by kernel_rfl) (fun _ _ _ h => h) (Or.inr ⟨by kernel_rfl, rfl⟩) hHeld ?_
          try simp only [ν1, ν2, ν3, ν4, ν5, ν6, ν7, ν8]
          refine wpAnyH_take (i := 36) (v := undef) rfl (by kernel_rfl) (by kernel_rfl) (by kernel_rfl) (fun _ _ _ h => h) (Or.inr ⟨by kernel_rfl, rfl⟩) hHeld ?_
          try simp only [ν1, ν2, ν3, ν4, ν5, ν6, ν7, ν8]
          refine wpAnyH_take (i := 37) (v := .bool true) rfl (by kernel_rfl) (by kernel_rfl) (by kernel_rfl) (fun _ _ _ h => h) (Or.inl ⟨by rfl, ?_⟩) hHeld ?_
          · intro w' hSw; go_simp <;> omega
          try simp only [ν1, ν2, ν3, ν4, ν5, ν6, ν7, ν8]
          have hHeld0 := hHeld
          refine wpAnyH_done (by kernel_rfl) ?_ _
          clear hHeld
          have HB7 := Lib.hid (HBa.out.trans (hHeld0.mono HBa.out.size))
          clear hHeld0
          go_wp2_with fail
          exact fin (hR _ HB7.out) (show Value.bool _ = Value.bool _ by rw [factsB_false hlt (by rw [Ho.out, may_false2 hne]; rfl)])
        have k7 : ¬ (x.sp.length : Int) = 0 := by omega
        cases hst : setB x.sp
        ·
          refine wp_region_held_drew (S := fun w' => Below wa.heap.size wa w') (by kernel_rfl) (Below.drew (Below.refl _ _)) (fun hHeld => ?_)
          refine wpAnyH_take (i := 0) (v := .agg #[.int .i64 (x.e), .int .i64 (x.a), .int .i64 (x.v.kind), .int .i64 (x.v.n), .string ⟨x.v.s.toArray⟩, .int .i64 1, .bool false, .int .i64 0, .int .i64 1]) rfl (by kernel_rfl) (by kernel_rfl) (by kernel_rfl) (fun _ _ _ h => h) (Or.inl ⟨by rfl, ?_⟩) hHeld ?_
          · intro w' hSw; have k0 := (World.cell?_of_block (hSw.block _ hy1)).trans y0; have k1 := (World.cell?_of_block (hSw.block _ hy1)).trans y1; have k2 := (World.cell?_of_block (hSw.block _ hy1)).trans y2; have k3 := (World.cell?_of_block (hSw.block _ hy1)).trans y3; have k4 := (World.cell?_of_block (hSw.block _ hy1)).trans y4; have k5 := (World.cell?_of_block (hSw.block _ hy1)).trans y5; have k6 := (World.cell?_of_block (hSw.block _ hy1)).trans y6; have k7 := (World.cell?_of_block (hSw.block _ hy1)).trans y7; have k8 := (World.cell?_of_block (hSw.block _ hy1)).trans y8; go_simp
          try simp only [ν1, ν2, ν3, ν4, ν5, ν6, ν7, ν8]
          refine wpAnyH_ready (rs := [1]) (by kernel_rfl) (by simp) ?_
          refine allCall (f := 29) (args := #[.agg #[.int .i64 (x.e), .int .i64 (x.a), .int .i64 (x.v.kind), .int .i64 (x.v.n), .string ⟨x.v.s.toArray⟩, .int .i64 1, .bool false, .int .i64 0, .int .i64 1]]) rfl (by kernel_rfl) (by kernel_rfl) ?_ AllReadyH.nil
          refine dMay_any x.e x.a x.v wa.drew hxl _ (fun wq1 hB => ?_)
          rw [hmd]
          refine ⟨_, rfl, hHeld.trans (hB.mono hHeld.size), ?_⟩
          have hHeld2 := hHeld.trans (hB.mono hHeld.size)
          clear hHeld
          have hHeld := hHeld2
          clear hHeld2
          clear hB
          try simp only [ν1, ν2, ν3, ν4, ν5, ν6, ν7, ν8]
          refine wpAnyH_take (i := 2) (v := .bool false) rfl (by kernel_rfl) (by kernel_rfl) (by kernel_rfl) (fun _ _ _ h => h) (Or.inl ⟨by rfl, ?_⟩) hHeld ?_
          · intro w' hSw; go_simp <;> omega
          try simp only [ν1, ν2, ν3, ν4, ν5, ν6, ν7, ν8]
          refine wpAnyH_take (i := 3) (v := .bool false) rfl (by kernel_rfl) (by kernel_rfl) (by kernel_rfl) (fun _ _ _ h => h) (Or.inl ⟨by rfl, ?_⟩) hHeld ?_
          · intro w' hSw; go_simp <;> omega
          try simp only [ν1, ν2, ν3, ν4, ν5, ν6, ν7, ν8]
          refine wpAnyH_take (i := 4) (v := .slice (some ⟨b, off, none⟩) l.length cap) rfl (by kernel_rfl) (by kernel_rfl) (by kernel_rfl) (fun _ _ _ h => h) (Or.inl ⟨by rfl, ?_⟩) hHeld ?_
          · intro w' hSw; go_simp <;> omega
          try simp only [ν1, ν2, ν3, ν4, ν5, ν6, ν7, ν8]
          refine wpAnyH_take (i := 5) (v := .int .i64 ((k : Int))) rfl (by kernel_rfl) (by kernel_rfl) (by kernel_rfl) (fun _ _ _ h => h) (Or.inl ⟨by rfl, ?_⟩) hHeld ?_
          · intro w' hSw; go_simp <;> omega
          try simp only [ν1, ν2, ν3, ν4, ν5, ν6, ν7, ν8]
          refine wpAnyH_take (i := 6) (v := .pointer (some ⟨b, off + k * 6, none⟩)) rfl (by kernel_rfl) (by kernel_rfl) (by kernel_rfl) (fun _ _ _ h => h) (Or.inl ⟨by rfl, ?_⟩) hHeld ?_
          · intro w' hSw; go_simp <;> omega
          try simp only [ν1, ν2, ν3, ν4, ν5, ν6, ν7, ν8]
          refine wpAnyH_take (i := 7) (v := .pointer (some ⟨b, off + k * 6 + 5, none⟩)) rfl (by kernel_rfl) (by kernel_rfl) (by kernel_rfl) (fun _ _ _ h => h) (Or.inl ⟨by rfl, ?_⟩) hHeld ?_
          · intro w' hSw; go_simp <;> omega
          try simp only [ν1, ν2, ν3, ν4, ν5, ν6, ν7, ν8]
          refine wpAnyH_take (i := 8) (v := .slice ax x.sp.length cx) rfl (by kernel_rfl) (by kernel_rfl) (by kernel_rfl) (fun _ _ _ h => h) (Or.inl ⟨by rfl, ?_⟩) hHeld ?_
          · intro w' hSw; have kx := (World.cell?_of_block (hSw.block _ hba)).trans g5; go_simp
          try simp only [ν1, ν2, ν3, ν4, ν5, ν6, ν7, ν8]
          refine wpAnyH_take (i := 9) (v := .int .i64 ((x.sp.length : Int))) rfl (by kernel_rfl) (by kernel_rfl) (by kernel_rfl) (fun _ _ _ h => h) (Or.inl ⟨by rfl, ?_⟩) hHeld ?_
          · intro w' hSw; go_simp <;> omega
          try simp only [ν1, ν2, ν3, ν4, ν5, ν6, ν7, ν8]
          refine wpAnyH_take (i := 10) (v := .bool false) rfl (by kernel_rfl) (by kernel_rfl) (by kernel_rfl) (fun _ _ _ h => h) (Or.inl ⟨by rfl, ?_⟩) hHeld ?_
          · intro w' hSw; go_simp <;> omega
          try simp only [ν1, ν2, ν3, ν4, ν5, ν6, ν7, ν8]
          refine wpAnyH_take (i := 11) (v := .bool false) rfl (by kernel_rfl) (by kernel_rfl) (by kernel_rfl) (fun _ _ _ h => h) (Or.inl ⟨by rfl, ?_⟩) hHeld ?_
          · intro w' hSw; go_simp <;> omega
          try simp only [ν1, ν2, ν3, ν4, ν5, ν6, ν7, ν8]
          refine wpAnyH_take (i := 12) (v := .bool false) rfl (by kernel_rfl) (by kernel_rfl) (by kernel_rfl) (fun _ _ _ h => h) (Or.inl ⟨by rfl, ?_⟩) hHeld ?_
          · intro w' hSw; go_simp <;> omega
          try simp only [ν1, ν2, ν3, ν4, ν5, ν6, ν7, ν8]
          refine wpAnyH_take (i := 13) (v := .slice (some ⟨b, off, none⟩) l.length cap) rfl (by kernel_rfl) (by kernel_rfl) (by kernel_rfl) (fun _ _ _ h => h) (Or.inl ⟨by rfl, ?_⟩) hHeld ?_
          · intro w' hSw; go_simp <;> omega
          try simp only [ν1, ν2, ν3, ν4, ν5, ν6, ν7, ν8]
          refine wpAnyH_take (i := 14) (v := .int .i64 ((k : Int))) rfl (by kernel_rfl) (by kernel_rfl) (by kernel_rfl) (fun _ _ _ h => h) (Or.inl ⟨by rfl, ?_⟩) hHeld ?_
          · intro w' hSw; go_simp <;> omega
          try simp only [ν1, ν2, ν3, ν4, ν5, ν6, ν7, ν8]
          refine wpAnyH_take (i := 15) (v := .pointer (some ⟨b, off + k * 6, none⟩)) rfl (by kernel_rfl) (by kernel_rfl) (by kernel_rfl) (fun _ _ _ h => h) (Or.inl ⟨by rfl, ?_⟩) hHeld ?_
          · intro w' hSw; go_simp <;> omega
          try simp only [ν1, ν2, ν3, ν4, ν5, ν6, ν7, ν8]
          refine wpAnyH_take (i := 16) (v := .pointer (some ⟨b, off + k * 6 + 5, none⟩)) rfl (by kernel_rfl) (by kernel_rfl) (by kernel_rfl) (fun _ _ _ h => h) (Or.inl ⟨by rfl, ?_⟩) hHeld ?_
          · intro w' hSw; go_simp <;> omega
          try simp only [ν1, ν2, ν3, ν4, ν5, ν6, ν7, ν8]
          refine wpAnyH_take (i := 17) (v := .slice ax x.sp.length cx) rfl (by kernel_rfl) (by kernel_rfl) (by kernel_rfl) (fun _ _ _ h => h) (Or.inl ⟨by rfl, ?_⟩) hHeld ?_
          · intro w' hSw; have kx := (World.cell?_of_block (hSw.block _ hba)).trans g5; go_simp
          try simp only [ν1, ν2, ν3, ν4, ν5, ν6, ν7, ν8]
          refine wpAnyH_ready (rs := [18]) (by kernel_rfl) (by simp) ?_
          refine allCall (f := 30) (args := #[.slice ax x.sp.length cx]) rfl (by kernel_rfl) (by kernel_rfl) ?_ AllReadyH.nil
          refine Set_any lo hi x.sp _ wq1 (hSp.out _ hHeld) (Nat.le_trans hha hHeld.size) _ (fun wq2 hB => ?_)
          rw [hst]
          refine ⟨_, rfl, hHeld.trans (hB.mono hHeld.size), ?_⟩
          have hHeld2 := hHeld.trans (hB.mono hHeld.size)
          clear hHeld
          have hHeld := hHeld2
          clear hHeld2
          clear hB
          try simp only [ν1, ν2, ν3, ν4, ν5, ν6, ν7, ν8]
          refine wpAnyH_take (i := 19) (v := .bool true) rfl (by kernel_rfl) (by kernel_rfl) (by kernel_rfl) (fun _ _ _ h => h) (Or.inl ⟨by rfl, ?_⟩) hHeld ?_
          · intro w' hSw; go_simp <;> omega
          try simp only [ν1, ν2, ν3, ν4, ν5, ν6, ν7, ν8]
          refine wpAnyH_take (i := 20) (v := .bool true) rfl (by kernel_rfl) (by kernel_rfl) (by kernel_rfl) (fun _ _ _ h => h) (Or.inl ⟨by rfl, ?_⟩) hHeld ?_
          · intro w' hSw; go_simp <;> omega
          try simp only [ν1, ν2, ν3, ν4, ν5, ν6, ν7, ν8]
          refine wpAnyH_take (i := 21) (v := .bool true) rfl (by kernel_rfl) (by kernel_rfl) (by kernel_rfl) (fun _ _ _ h => h) (Or.inl ⟨by rfl, ?_⟩) hHeld ?_
          · intro w' hSw; go_simp <;> omega
          try simp only [ν1, ν2, ν3, ν4, ν5, ν6, ν7, ν8]
          refine wpAnyH_take (i := 22) (v := undef) rfl (by kernel_rfl) (by kernel_rfl) (by kernel_rfl) (fun _ _ _ h => h) (Or.inr ⟨by kernel_rfl, rfl⟩) hHeld ?_
          try simp only [ν1, ν2, ν3, ν4, ν5, ν6, ν7, ν8]
          refine wpAnyH_take (i := 23) (v := undef) rfl (by kernel_rfl) (by kernel_rfl) (by kernel_rfl) (fun _ _ _ h => h) (Or.inr ⟨by kernel_rfl, rfl⟩) hHeld ?_
          try simp only [ν1, ν2, ν3, ν4, ν5, ν6, ν7, ν8]
          refine wpAnyH_take (i := 24) (v := undef) rfl (by kernel_rfl) (by kernel_rfl) (by kernel_rfl) (fun _ _ _ h => h) (Or.inr ⟨by kernel_rfl, rfl⟩) hHeld ?_
          try simp only [ν1, ν2, ν3, ν4, ν5, ν6, ν7, ν8]
          refine wpAnyH_take (i := 25) (v := undef) rfl (by kernel_rfl) (by kernel_rfl) (by kernel_rfl) (fun _ _ _ h => h) (Or.inr ⟨by kernel_rfl, rfl⟩) hHeld ?_
          try simp only [ν1, ν2, ν3, ν4, ν5, ν6, ν7, ν8]
          refine wpAnyH_take (i := 26) (v := undef) rfl (by kernel_rfl) (by kernel_rfl) (by kernel_rfl) (fun _ _ _ h => h) (Or.inr ⟨by kernel_rfl, rfl⟩) hHeld ?_
          try simp only [ν1, ν2, ν3, ν4, ν5, ν6, ν7, ν8]
          refine wpAnyH_take (i := 27) (v := undef) rfl (by kernel_rfl) (by kernel_rfl) (by kernel_rfl) (fun _ _ _ h => h) (Or.inr ⟨by kernel_rfl, rfl⟩) hHeld ?_
          try simp only [ν1, ν2, ν3, ν4, ν5, ν6, ν7, ν8]
          refine wpAnyH_take (i := 28) (v := undef) rfl (by kernel_rfl) (by kernel_rfl) (by kernel_rfl) (fun _ _ _ h => h) (Or.inr ⟨by kernel_rfl, rfl⟩) hHeld ?_
          try simp only [ν1, ν2, ν3, ν4, ν5, ν6, ν7, ν8]
          refine wpAnyH_take (i := 29) (v := undef) rfl (by kernel_rfl) (by kernel_rfl) (by kernel_rfl) (fun _ _ _ h => h) (Or.inr ⟨by kernel_rfl, rfl⟩) hHeld ?_
          try simp only [ν1, ν2, ν3, ν4, ν5, ν6, ν7, ν8]
          refine wpAnyH_take (i := 30) (v := undef) rfl (by kernel_rfl) (by kernel_rfl) (by kernel_rfl) (fun _ _ _ h => h) (Or.inr ⟨by kernel_rfl, rfl⟩) hHeld ?_
          try simp only [ν1, ν2, ν3, ν4, ν5, ν6, ν7, ν8]
          refine wpAnyH_take (i := 31) (v := undef) rfl (by kernel_rfl) (by kernel_rfl) (by kernel_rfl) (fun _ _ _ h => h) (Or.inr ⟨by kernel_rfl, rfl⟩) hHeld ?_
          try simp only [ν1, ν2, ν3, ν4, ν5, ν6, ν7, ν8]
          refine wpAnyH_take (i := 32) (v := undef) rfl (by kernel_rfl) (by kernel_rfl) (by kernel_rfl) (fun _ _ _ h => h) (Or.inr ⟨by kernel_rfl, rfl⟩) hHeld ?_
          try simp only [ν1, ν2, ν3, ν4, ν5, ν6, ν7, ν8]
          refine wpAnyH_take (i := 33) (v := undef) rfl (by kernel_rfl) (by kernel_rfl) (by kernel_rfl) (fun _ _ _ h => h) (Or.inr ⟨by kernel_rfl, rfl⟩) hHeld ?_
          try simp only [ν1, ν2, ν3, ν4, ν5, ν6, ν7, ν8]
          refine wpAnyH_take (i := 34) (v := undef) rfl (by kernel_rfl) (by kernel_rfl) (by kernel_rfl) (fun _ _ _ h => h) (Or.inr ⟨by kernel_rfl, rfl⟩) hHeld ?_
          try simp only [ν1, ν2, ν3, ν4, ν5, ν6, ν7, ν8]
          refine wpAnyH_take (i := 35) (v := undef) rfl (by kernel_rfl) (by kernel_rfl) (by kernel_rfl) (fun _ _ _ h => h) (Or.inr ⟨by kernel_rfl, rfl⟩) hHeld ?_
          try simp only [ν1, ν2, ν3, ν4, ν5, ν6, ν7, ν8]
          refine wpAnyH_take (i := 36) (v := undef) rfl (by kernel_rfl) (by kernel_rfl) (by kernel_rfl) (fun _ _ _ h => h) (Or.inr ⟨by kernel_rfl, rfl⟩) hHeld ?_
          try simp only [ν1, ν2, ν3, ν4, ν5, ν6, ν7, ν8]
          refine wpAnyH_take (i := 37) (v := .bool true) rfl (by kernel_rfl) (by kernel_rfl) (by kernel_rfl) (fun _ _ _ h => h) (Or.inl ⟨by rfl, ?_⟩) hHeld ?_
          · intro w' hSw; go_simp <;> omega
          try simp only [ν1, ν2, ν3, ν4, ν5, ν6, ν7, ν8]
          have hHeld0 := hHeld
          refine wpAnyH_done (by kernel_rfl) ?_ _
          clear hHeld
          have HB7 := Lib.hid (HBa.out.trans (hHeld0.mono HBa.out.size))
          clear hHeld0
          go_wp2_with fail
          exact fin (hR _ HB7.out) (show Value.bool _ = Value.bool _ by rw [factsB_false hlt (by rw [Ho.out, (may_set hmd (by omega)).trans hst]; rfl)])
        refine wp_region_held_drew (S := fun w' => Below wa.heap.size wa w') (by kernel_rfl) (Below.drew (Below.refl _ _)) (fun hHeld => ?_)
        refine wpAnyH_take (i := 0) (v := .agg #[.int .i64 (x.e), .int .i64 (x.a), .int .i64 (x.v.kind), .int .i64 (x.v.n), .string ⟨x.v.s.toArray⟩, .int .i64 1, .bool false, .int .i64 0, .int .i64 1]) rfl (by kernel_rfl) (by kernel_rfl) (by kernel_rfl) (fun _ _ _ h => h) (Or.inl ⟨by rfl, ?_⟩) hHeld ?_
        · intro w' hSw; have k0 := (World.cell?_of_block (hSw.block _ hy1)).trans y0; have k1 := (World.cell?_of_block (hSw.block _ hy1)).trans y1; have k2 := (World.cell?_of_block (hSw.block _ hy1)).trans y2; have k3 := (World.cell?_of_block (hSw.block _ hy1)).trans y3; have k4 := (World.cell?_of_block (hSw.block _ hy1)).trans y4; have k5 := (World.cell?_of_block (hSw.block _ hy1)).trans y5; have k6 := (World.cell?_of_block (hSw.block _ hy1)).trans y6; have k7 := (World.cell?_of_block (hSw.block _ hy1)).trans y7; have k8 := (World.cell?_of_block (hSw.block _ hy1)).trans y8; go_simp
        try simp only [ν1, ν2, ν3, ν4, ν5, ν6, ν7, ν8]
        refine wpAnyH_ready (rs := [1]) (by kernel_rfl) (by simp) ?_
        refine allCall (f := 29) (args := #[.agg #[.int .i64 (x.e), .int .i64 (x.a), .int .i64 (x.v.kind), .int .i64 (x.v.n), .string ⟨x.v.s.toArray⟩, .int .i64 1, .bool false, .int .i64 0, .int .i64 1]]) rfl (by kernel_rfl) (by kernel_rfl) ?_ AllReadyH.nil
        refine dMay_any x.e x.a x.v wa.drew hxl _ (fun wq1 hB => ?_)
        rw [hmd]
        refine ⟨_, rfl, hHeld.trans (hB.mono hHeld.size), ?_⟩
        have hHeld2 := hHeld.trans (hB.mono hHeld.size)
        clear hHeld
        have hHeld := hHeld2
        clear hHeld2
        clear hB
        try simp only [ν1, ν2, ν3, ν4, ν5, ν6, ν7, ν8]
        refine wpAnyH_take (i := 2) (v := .bool false) rfl (by kernel_rfl) (by kernel_rfl) (by kernel_rfl) (fun _ _ _ h => h) (Or.inl ⟨by rfl, ?_⟩) hHeld ?_
        · intro w' hSw; go_simp <;> omega
        try simp only [ν1, ν2, ν3, ν4, ν5, ν6, ν7, ν8]
        refine wpAnyH_take (i := 3) (v := .bool false) rfl (by kernel_rfl) (by kernel_rfl) (by kernel_rfl) (fun _ _ _ h => h) (Or.inl ⟨by rfl, ?_⟩) hHeld ?_
        · intro w' hSw; go_simp <;> omega
        try simp only [ν1, ν2, ν3, ν4, ν5, ν6, ν7, ν8]
        refine wpAnyH_take (i := 4) (v := .slice (some ⟨b, off, none⟩) l.length cap) rfl (by kernel_rfl) (by kernel_rfl) (by kernel_rfl) (fun _ _ _ h => h) (Or.inl ⟨by rfl, ?_⟩) hHeld ?_
        · intro w' hSw; go_simp <;> omega
        try simp only [ν1, ν2, ν3, ν4, ν5, ν6, ν7, ν8]
        refine wpAnyH_take (i := 5) (v := .int .i64 ((k : Int))) rfl (by kernel_rfl) (by kernel_rfl) (by kernel_rfl) (fun _ _ _ h => h) (Or.inl ⟨by rfl, ?_⟩) hHeld ?_
        · intro w' hSw; go_simp <;> omega
        try simp only [ν1, ν2, ν3, ν4, ν5, ν6, ν7, ν8]
        refine wpAnyH_take (i := 6) (v := .pointer (some ⟨b, off + k * 6, none⟩)) rfl (by kernel_rfl) (by kernel_rfl) (by kernel_rfl) (fun _ _ _ h => h) (Or.inl ⟨by rfl, ?_⟩) hHeld ?_
        · intro w' hSw; go_simp <;> omega
        try simp only [ν1, ν2, ν3, ν4, ν5, ν6, ν7, ν8]
        refine wpAnyH_take (i := 7) (v := .pointer (some ⟨b, off + k * 6 + 5, none⟩)) rfl (by kernel_rfl) (by kernel_rfl) (by kernel_rfl) (fun _ _ _ h => h) (Or.inl ⟨by rfl, ?_⟩) hHeld ?_
        · intro w' hSw; go_simp <;> omega
        try simp only [ν1, ν2, ν3, ν4, ν5, ν6, ν7, ν8]
        refine wpAnyH_take (i := 8) (v := .slice ax x.sp.length cx) rfl (by kernel_rfl) (by kernel_rfl) (by kernel_rfl) (fun _ _ _ h => h) (Or.inl ⟨by rfl, ?_⟩) hHeld ?_
        · intro w' hSw; have kx := (World.cell?_of_block (hSw.block _ hba)).trans g5; go_simp
        try simp only [ν1, ν2, ν3, ν4, ν5, ν6, ν7, ν8]
        refine wpAnyH_take (i := 9) (v := .int .i64 ((x.sp.length : Int))) rfl (by kernel_rfl) (by kernel_rfl) (by kernel_rfl) (fun _ _ _ h => h) (Or.inl ⟨by rfl, ?_⟩) hHeld ?_
        · intro w' hSw; go_simp <;> omega
        try simp only [ν1, ν2, ν3, ν4, ν5, ν6, ν7, ν8]
        refine wpAnyH_take (i := 10) (v := .bool false) rfl (by kernel_rfl) (by kernel_rfl) (by kernel_rfl) (fun _ _ _ h => h) (Or.inl ⟨by rfl, ?_⟩) hHeld ?_
        · intro w' hSw; go_simp <;> omega
        try simp only [ν1, ν2, ν3, ν4, ν5, ν6, ν7, ν8]
        refine wpAnyH_take (i := 11) (v := .bool false) rfl (by kernel_rfl) (by kernel_rfl) (by kernel_rfl) (fun _ _ _ h => h) (Or.inl ⟨by rfl, ?_⟩) hHeld ?_
        · intro w' hSw; go_simp <;> omega
        try simp only [ν1, ν2, ν3, ν4, ν5, ν6, ν7, ν8]
        refine wpAnyH_take (i := 12) (v := .bool false) rfl (by kernel_rfl) (by kernel_rfl) (by kernel_rfl) (fun _ _ _ h => h) (Or.inl ⟨by rfl, ?_⟩) hHeld ?_
        · intro w' hSw; go_simp <;> omega
        try simp only [ν1, ν2, ν3, ν4, ν5, ν6, ν7, ν8]
        refine wpAnyH_take (i := 13) (v := .slice (some ⟨b, off, none⟩) l.length cap) rfl (by kernel_rfl) (by kernel_rfl) (by kernel_rfl) (fun _ _ _ h => h) (Or.inl ⟨by rfl, ?_⟩) hHeld ?_
        · intro w' hSw; go_simp <;> omega
        try simp only [ν1, ν2, ν3, ν4, ν5, ν6, ν7, ν8]
        refine wpAnyH_take (i := 14) (v := .int .i64 ((k : Int))) rfl (by kernel_rfl) (by kernel_rfl) (by kernel_rfl) (fun _ _ _ h => h) (Or.inl ⟨by rfl, ?_⟩) hHeld ?_
        · intro w' hSw; go_simp <;> omega
        try simp only [ν1, ν2, ν3, ν4, ν5, ν6, ν7, ν8]
        refine wpAnyH_take (i := 15) (v := .pointer (some ⟨b, off + k * 6, none⟩)) rfl (by kernel_rfl) (by kernel_rfl) (by kernel_rfl) (fun _ _ _ h => h) (Or.inl ⟨by rfl, ?_⟩) hHeld ?_
        · intro w' hSw; go_simp <;> omega
        try simp only [ν1, ν2, ν3, ν4, ν5, ν6, ν7, ν8]
        refine wpAnyH_take (i := 16) (v := .pointer (some ⟨b, off + k * 6 + 5, none⟩)) rfl (by kernel_rfl) (by kernel_rfl) (by kernel_rfl) (fun _ _ _ h => h) (Or.inl ⟨by rfl, ?_⟩) hHeld ?_
        · intro w' hSw; go_simp <;> omega
        try simp only [ν1, ν2, ν3, ν4, ν5, ν6, ν7, ν8]
        refine wpAnyH_take (i := 17) (v := .slice ax x.sp.length cx) rfl (by kernel_rfl) (by kernel_rfl) (by kernel_rfl) (fun _ _ _ h => h) (Or.inl ⟨by rfl, ?_⟩) hHeld ?_
        · intro w' hSw; have kx := (World.cell?_of_block (hSw.block _ hba)).trans g5; go_simp
        try simp only [ν1, ν2, ν3, ν4, ν5, ν6, ν7, ν8]
        refine wpAnyH_ready (rs := [18]) (by kernel_rfl) (by simp) ?_
        refine allCall (f := 30) (args := #[.slice ax x.sp.length cx]) rfl (by kernel_rfl) (by kernel_rfl) ?_ AllReadyH.nil
        refine Set_any lo hi x.sp _ wq1 (hSp.out _ hHeld) (Nat.le_trans hha hHeld.size) _ (fun wq2 hB => ?_)
        rw [hst]
        refine ⟨_, rfl, hHeld.trans (hB.mono hHeld.size), ?_⟩
        have hHeld2 := hHeld.trans (hB.mono hHeld.size)
        clear hHeld
        have hHeld := hHeld2
        clear hHeld2
        clear hB
        try simp only [ν1, ν2, ν3, ν4, ν5, ν6, ν7, ν8]
        refine wpAnyH_take (i := 19) (v := .bool false) rfl (by kernel_rfl) (by kernel_rfl) (by kernel_rfl) (fun _ _ _ h => h) (Or.inl ⟨by rfl, ?_⟩) hHeld ?_
        · intro w' hSw; go_simp <;> omega
        try simp only [ν1, ν2, ν3, ν4, ν5, ν6, ν7, ν8]
        refine wpAnyH_take (i := 20) (v := .bool false) rfl (by kernel_rfl) (by kernel_rfl) (by kernel_rfl) (fun _ _ _ h => h) (Or.inl ⟨by rfl, ?_⟩) hHeld ?_
        · intro w' hSw; go_simp <;> omega
        try simp only [ν1, ν2, ν3, ν4, ν5, ν6, ν7, ν8]
        refine wpAnyH_take (i := 21) (v := .bool false) rfl (by kernel_rfl) (by kernel_rfl) (by kernel_rfl) (fun _ _ _ h => h) (Or.inl ⟨by rfl, ?_⟩) hHeld ?_
        · intro w' hSw; go_simp <;> omega
        try simp only [ν1, ν2, ν3, ν4, ν5, ν6, ν7, ν8]
        refine wpAnyH_take (i := 22) (v := .int .i64 ((k : Int))) rfl (by kernel_rfl) (by kernel_rfl) (by kernel_rfl) (fun _ _ _ h => h) (Or.inl ⟨by rfl, ?_⟩) hHeld ?_
        · intro w' hSw; go_simp <;> omega
        try simp only [ν1, ν2, ν3, ν4, ν5, ν6, ν7, ν8]
        refine wpAnyH_take (i := 23) (v := .bool false) rfl (by kernel_rfl) (by kernel_rfl) (by kernel_rfl) (fun _ _ _ h => h) (Or.inl ⟨by rfl, ?_⟩) hHeld ?_
        · intro w' hSw; go_simp <;> omega
        try simp only [ν1, ν2, ν3, ν4, ν5, ν6, ν7, ν8]
        refine wpAnyH_take (i := 24) (v := .bool false) rfl (by kernel_rfl) (by kernel_rfl) (by kernel_rfl) (fun _ _ _ h => h) (Or.inl ⟨by rfl, ?_⟩) hHeld ?_
        · intro w' hSw; go_simp <;> omega
        try simp only [ν1, ν2, ν3, ν4, ν5, ν6, ν7, ν8]
        refine wpAnyH_take (i := 25) (v := undef) rfl (by kernel_rfl) (by kernel_rfl) (by kernel_rfl) (fun _ _ _ h => h) (Or.inr ⟨by kernel_rfl, rfl⟩) hHeld ?_
        try simp only [ν1, ν2, ν3, ν4, ν5, ν6, ν7, ν8]
        refine wpAnyH_take (i := 26) (v := undef) rfl (by kernel_rfl) (by kernel_rfl) (by kernel_rfl) (fun _ _ _ h => h) (Or.inr ⟨by kernel_rfl, rfl⟩) hHeld ?_
        try simp only [ν1, ν2, ν3, ν4, ν5, ν6, ν7, ν8]
        refine wpAnyH_take (i := 27) (v := undef) rfl (by kernel_rfl) (by kernel_rfl) (by kernel_rfl) (fun _ _ _ h => h) (Or.inr ⟨by kernel_rfl, rfl⟩) hHeld ?_
        try simp only [ν1, ν2, ν3, ν4, ν5, ν6, ν7, ν8]
        refine wpAnyH_take (i := 28) (v := undef) rfl (by kernel_rfl) (by kernel_rfl) (by kernel_rfl) (fun _ _ _ h => h) (Or.inr ⟨by kernel_rfl, rfl⟩) hHeld ?_
        try simp only [ν1, ν2, ν3, ν4, ν5, ν6, ν7, ν8]
        refine wpAnyH_take (i := 29) (v := undef) rfl (by kernel_rfl) (by kernel_rfl) (by kernel_rfl) (fun _ _ _ h => h) (Or.inr ⟨by kernel_rfl, rfl⟩) hHeld ?_
        try simp only [ν1, ν2, ν3, ν4, ν5, ν6, ν7, ν8]
        refine wpAnyH_take (i := 30) (v := undef) rfl (by kernel_rfl) (by kernel_rfl) (by kernel_rfl) (fun _ _ _ h => h) (Or.inr ⟨by kernel_rfl, rfl⟩) hHeld ?_
        try simp only [ν1, ν2, ν3, ν4, ν5, ν6, ν7, ν8]
        refine wpAnyH_take (i := 31) (v := undef) rfl (by kernel_rfl) (by kernel_rfl) (by kernel_rfl) (fun _ _ _ h => h) (Or.inr ⟨by kernel_rfl, rfl⟩) hHeld ?_
        try simp only [ν1, ν2, ν3, ν4, ν5, ν6, ν7, ν8]
        refine wpAnyH_take (i := 32) (v := undef) rfl (by kernel_rfl) (by kernel_rfl) (by kernel_rfl) (fun _ _ _ h => h) (Or.inr ⟨by kernel_rfl, rfl⟩) hHeld ?_
        try simp only [ν1, ν2, ν3, ν4, ν5, ν6, ν7, ν8]
        refine wpAnyH_take (i := 33) (v := undef) rfl (by kernel_rfl) (by kernel_rfl) (by kernel_rfl) (fun _ _ _ h => h) (Or.inr ⟨by kernel_rfl, rfl⟩) hHeld ?_
        try simp only [ν1, ν2, ν3, ν4, ν5, ν6, ν7, ν8]
        refine wpAnyH_take (i := 34) (v := undef) rfl (by kernel_rfl) (by kernel_rfl) (by kernel_rfl) (fun _ _ _ h => h) (Or.inr ⟨by kernel_rfl, rfl⟩) hHeld ?_
        try simp only [ν1, ν2, ν3, ν4, ν5, ν6, ν7, ν8]
        refine wpAnyH_take (i := 35) (v := undef) rfl (by kernel_rfl) (by kernel_rfl) (by kernel_rfl) (fun _ _ _ h => h) (Or.inr ⟨by kernel_rfl, rfl⟩) hHeld ?_
        try simp only [ν1, ν2, ν3, ν4, ν5, ν6, ν7, ν8]
        refine wpAnyH_take (i := 36) (v := .bool false) rfl (by kernel_rfl) (by kernel_rfl) (by kernel_rfl) (fun _ _ _ h => h) (Or.inl ⟨by rfl, ?_⟩) hHeld ?_
        · intro w' hSw; go_simp <;> omega
        try simp only [ν1, ν2, ν3, ν4, ν5, ν6, ν7, ν8]
        refine wpAnyH_take (i := 37) (v := .bool false) rfl (by kernel_rfl) (by kernel_rfl) (by kernel_rfl) (fun _ _ _ h => h) (Or.inl ⟨by rfl, ?_⟩) hHeld ?_
        · intro w' hSw; go_simp <;> omega
        try simp only [ν1, ν2, ν3, ν4, ν5, ν6, ν7, ν8]
        have hHeld0 := hHeld
        refine wpAnyH_done (by kernel_rfl) ?_ _
        clear hHeld
        have HB7 := Lib.hid (HBa.out.trans (hHeld0.mono HBa.out.size))
        clear hHeld0
        go_wp2_with fail
        go_roundw
        case rel => exact ⟨k + 1, by omega, by go_num, fun j hj => by
          by_cases e : j = k
          · subst e; rw [Ho.out, (may_set hmd (by omega)).trans hst]; simp; omega
          · exact Hyes.out j (by omega), HB7.out⟩
        case measure => simp [intOf]; omega
    · go_wp2_with fail
      exact fin (hR _ hB) (show Value.bool _ = Value.bool _ by rw [factsB_true (fun j hj => Hyes.out j (by omega))])
def greatN (l : List Ft) : Int := l.foldl (fun n x => IntKind.i64.wrap (IntKind.i64.wrap (IntKind.i64.wrap (n + 20) + (x.v.s.length : Int)) + IntKind.i64.wrap (4 * (x.sp.length : Int)))) 0
theorem greatN_step (l : List Ft) (k : Nat) (h : k < l.length) : greatN (l.take (k + 1)) = IntKind.i64.wrap (IntKind.i64.wrap (IntKind.i64.wrap (greatN (l.take k) + 20) + (l[k].v.s.length : Int)) + IntKind.i64.wrap (4 * (l[k].sp.length : Int))) := by
  unfold greatN
  rw [List.take_succ_eq_append_getElem h, List.foldl_append]
  rfl
def greatB (l : List Ft) : Bool := decide (3000 < greatN l)
set_option maxRecDepth 100000 in
set_option maxHeartbeats 4000000 in
theorem fGreat_any (lo hi : Nat) (l : List Ft) (v : Value) (w : World) (hv : Fts lo hi w v l) (hhi : hi ≤ w.heap.size) (R : Ending → World → Prop) (hR : ∀ w', Below w.heap.size w w' → R (.returned (.int .i64 (if greatB l then 1 else 0))) w') :
    Calls Try.prog 4 #[v] w R := by
  have Hv := Lib.hid hv
  have HR := Lib.hid hR
  obtain ⟨ao, cap, rfl, hcl, hcm, -, -⟩ := hv.form
  clear hv hR
  go_enter Try.func4, Try.ntmps4
  go_wp2_with fail
  go_loopw [3, 4] (fun t3 t4 wr => ∃ k : Nat, k ≤ l.length ∧ t4 = .int .i64 k ∧ t3 = .int .i64 (greatN (l.take k)) ∧ Below w.heap.size w wr) (fun _ t4 _ => l.length - (intOf t4).toNat)
  case atStart => exact ⟨0, Nat.zero_le _, rfl, rfl, Below.refl _ _⟩
  case round =>
    obtain ⟨k, hk, rfl, rfl, hB⟩ := hrel
    have HB := Lib.hid hB
    by_cases hlt : k < l.length
    · obtain ⟨ao', cap', e', -, -, -, hc⟩ := (Sl.below Hv.out ftE_loc hB hhi).form
      injection e' with e1 e2 e3
      subst e1 e3
      obtain ⟨b, off, rfl, hb1, hb2, hcc⟩ := hc k hlt
      obtain ⟨cs, _, hcs, sv, rfl, hsv⟩ := hcc k hlt
      obtain ⟨ax, cx, rfl, -, -, -, -⟩ := hsv.form
      obtain ⟨h0, h1, h2, h3, h4, h5⟩ := hcs.f6
      have kk0 : (0 : Int) ≤ (k : Int) := by omega
      have kkl : (k : Int) < (l.length : Int) := by omega
      have Hst := Lib.hid (greatN_step l k hlt)
      clear hcs hB hc hsv hcc
      generalize hs : l[k] = x at *
      clear hs
      go_upto_region 5 with fail
      refine wp_region_held_drew (S := fun w' => w' = wr.drew) (by kernel_rfl) rfl (fun hHeld => ?_)
      refine wpAnyH_take (i := 0) (v := .int .i64 ((greatN (l.take k)))) rfl (by kernel_rfl) (by kernel_rfl) (by kernel_rfl) (fun _ _ _ h => h) (Or.inl ⟨by rfl, ?_⟩) hHeld ?_
      · intro w' hSw; subst hSw; go_simp <;> omega
      try simp only [ν1, ν2, ν3, ν4, ν5, ν6, ν7, ν8]
      refine wpAnyH_take (i := 1) (v := .int .i64 ((IntKind.i64.wrap (greatN (l.take k) + 20)))) rfl (by kernel_rfl) (by kernel_rfl) (by kernel_rfl) (fun _ _ _ h => h) (Or.inl ⟨by rfl, ?_⟩) hHeld ?_
      · intro w' hSw; subst hSw; go_simp <;> omega
      try simp only [ν1, ν2, ν3, ν4, ν5, ν6, ν7, ν8]
      refine wpAnyH_take (i := 2) (v := .slice (some ⟨b, off, none⟩) l.length cap) rfl (by kernel_rfl) (by kernel_rfl) (by kernel_rfl) (fun _ _ _ h => h) (Or.inl ⟨by rfl, ?_⟩) hHeld ?_
      · intro w' hSw; subst hSw; go_simp <;> omega
      try simp only [ν1, ν2, ν3, ν4, ν5, ν6, ν7, ν8]
      refine wpAnyH_take (i := 3) (v := .int .i64 ((k : Int))) rfl (by kernel_rfl) (by kernel_rfl) (by kernel_rfl) (fun _ _ _ h => h) (Or.inl ⟨by rfl, ?_⟩) hHeld ?_
      · intro w' hSw; subst hSw; go_simp <;> omega
      try simp only [ν1, ν2, ν3, ν4, ν5, ν6, ν7, ν8]
      refine wpAnyH_take (i := 4) (v := .pointer (some ⟨b, off + k * 6, none⟩)) rfl (by kernel_rfl) (by kernel_rfl) (by kernel_rfl) (fun _ _ _ h => h) (Or.inl ⟨by rfl, ?_⟩) hHeld ?_
      · intro w' hSw; subst hSw; go_simp <;> omega
      try simp only [ν1, ν2, ν3, ν4, ν5, ν6, ν7, ν8]
      refine wpAnyH_take (i := 5) (v := .pointer (some ⟨b, off + k * 6 + 2, none⟩)) rfl (by kernel_rfl) (by kernel_rfl) (by kernel_rfl) (fun _ _ _ h => h) (Or.inl ⟨by rfl, ?_⟩) hHeld ?_
      · intro w' hSw; subst hSw; go_simp <;> omega
      try simp only [ν1, ν2, ν3, ν4, ν5, ν6, ν7, ν8]
      refine wpAnyH_take (i := 6) (v := .pointer (some ⟨b, off + k * 6 + 4, none⟩)) rfl (by kernel_rfl) (by kernel_rfl) (by kernel_rfl) (fun _ _ _ h => h) (Or.inl ⟨by rfl, ?_⟩) hHeld ?_
      · intro w' hSw; subst hSw; go_simp <;> omega
      try simp only [ν1, ν2, ν3, ν4, ν5, ν6, ν7, ν8]
      refine wpAnyH_take (i := 7) (v := .string ⟨x.v.s.toArray⟩) rfl (by kernel_rfl) (by kernel_rfl) (by kernel_rfl) (fun _ _ _ h => h) (Or.inl ⟨by rfl, ?_⟩) hHeld ?_
      · intro w' hSw; subst hSw; have kx := h4; go_simp
      try simp only [ν1, ν2, ν3, ν4, ν5, ν6, ν7, ν8]
      refine wpAnyH_take (i := 8) (v := .int .i64 ((x.v.s.length : Int))) rfl (by kernel_rfl) (by kernel_rfl) (by kernel_rfl) (fun _ _ _ h => h) (Or.inl ⟨by rfl, ?_⟩) hHeld ?_
      · intro w' hSw; subst hSw; go_simp <;> omega
      try simp only [ν1, ν2, ν3, ν4, ν5, ν6, ν7, ν8]
      refine wpAnyH_take (i := 9) (v := .int .i64 ((IntKind.i64.wrap (IntKind.i64.wrap (greatN (l.take k) + 20) + (x.v.s.length : Int))))) rfl (by kernel_rfl) (by kernel_rfl) (by kernel_rfl) (fun _ _ _ h => h) (Or.inl ⟨by rfl, ?_⟩) hHeld ?_
      · intro w' hSw; subst hSw; go_simp <;> omega
      try simp only [ν1, ν2, ν3, ν4, ν5, ν6, ν7, ν8]
      refine wpAnyH_take (i := 10) (v := .slice (some ⟨b, off, none⟩) l.length cap) rfl (by kernel_rfl) (by kernel_rfl) (by kernel_rfl) (fun _ _ _ h => h) (Or.inl ⟨by rfl, ?_⟩) hHeld ?_
      · intro w' hSw; subst hSw; go_simp <;> omega
      try simp only [ν1, ν2, ν3, ν4, ν5, ν6, ν7, ν8]
      refine wpAnyH_take (i := 11) (v := .int .i64 ((k : Int))) rfl (by kernel_rfl) (by kernel_rfl) (by kernel_rfl) (fun _ _ _ h => h) (Or.inl ⟨by rfl, ?_⟩) hHeld ?_
      · intro w' hSw; subst hSw; go_simp <;> omega
      try simp only [ν1, ν2, ν3, ν4, ν5, ν6, ν7, ν8]
      refine wpAnyH_take (i := 12) (v := .pointer (some ⟨b, off + k * 6, none⟩)) rfl (by kernel_rfl) (by kernel_rfl) (by kernel_rfl) (fun _ _ _ h => h) (Or.inl ⟨by rfl, ?_⟩) hHeld ?_
      · intro w' hSw; subst hSw; go_simp <;> omega
      try simp only [ν1, ν2, ν3, ν4, ν5, ν6, ν7, ν8]
      refine wpAnyH_take (i := 13) (v := .pointer (some ⟨b, off + k * 6 + 5, none⟩)) rfl (by kernel_rfl) (by kernel_rfl) (by kernel_rfl) (fun _ _ _ h => h) (Or.inl ⟨by rfl, ?_⟩) hHeld ?_
      · intro w' hSw; subst hSw; go_simp <;> omega
      try simp only [ν1, ν2, ν3, ν4, ν5, ν6, ν7, ν8]
      refine wpAnyH_take (i := 14) (v := .slice ax x.sp.length cx) rfl (by kernel_rfl) (by kernel_rfl) (by kernel_rfl) (fun _ _ _ h => h) (Or.inl ⟨by rfl, ?_⟩) hHeld ?_
      · intro w' hSw; subst hSw; have kx := h5; go_simp
      try simp only [ν1, ν2, ν3, ν4, ν5, ν6, ν7, ν8]
      refine wpAnyH_take (i := 15) (v := .int .i64 ((x.sp.length : Int))) rfl (by kernel_rfl) (by kernel_rfl) (by kernel_rfl) (fun _ _ _ h => h) (Or.inl ⟨by rfl, ?_⟩) hHeld ?_
      · intro w' hSw; subst hSw; go_simp <;> omega
      try simp only [ν1, ν2, ν3, ν4, ν5, ν6, ν7, ν8]
      refine wpAnyH_take (i := 16) (v := .int .i64 ((IntKind.i64.wrap (4 * (x.sp.length : Int))))) rfl (by kernel_rfl) (by kernel_rfl) (by kernel_rfl) (fun _ _ _ h => h) (Or.inl ⟨by rfl, ?_⟩) hHeld ?_
      · intro w' hSw; subst hSw; go_simp <;> omega
      try simp only [ν1, ν2, ν3, ν4, ν5, ν6, ν7, ν8]
      refine wpAnyH_take (i := 17) (v := .int .i64 ((greatN (l.take (k + 1))))) rfl (by kernel_rfl) (by kernel_rfl) (by kernel_rfl) (fun _ _ _ h => h) (Or.inl ⟨by rfl, ?_⟩) hHeld ?_
      · intro w' hSw; subst hSw; rw [Hst.out]; go_simp
      try simp only [ν1, ν2, ν3, ν4, ν5, ν6, ν7, ν8]
      refine wpAnyH_take (i := 18) (v := .int .i64 ((greatN (l.take (k + 1))))) rfl (by kernel_rfl) (by kernel_rfl) (by kernel_rfl) (fun _ _ _ h => h) (Or.inl ⟨by rfl, ?_⟩) hHeld ?_
      · intro w' hSw; subst hSw; go_simp <;> omega
      try simp only [ν1, ν2, ν3, ν4, ν5, ν6, ν7, ν8]
      refine wpAnyH_done (by kernel_rfl) ?_ _
      clear hHeld
      go_wp2_with fail
      go_roundw
      case rel => exact ⟨k + 1, by omega, by go_num, rfl, HB.out.drew⟩
      case measure => simp [intOf]; omega
    · obtain rfl : k = l.length := by omega
      have hr := HR.out wr HB.out
      unfold greatB at hr
      rw [List.take_length]
      clear hB
      by_cases hg : 3000 < greatN l
      · rw [decide_eq_true hg] at hr
        go_wp2_with fail
        first | exact hr | exact fin hr rfl
      · rw [decide_eq_false hg] at hr
        go_wp2_with fail
        first | exact hr | exact fin hr rfl
end Go.Proofs.Yticbhfmpnmolcaa
end

/- The attributes a pull knows: the first of each name; what a pull answers. -/
section
set_option linter.unusedVariables false
set_option linter.unusedSimpArgs false
namespace Go.Proofs.Yticbhfmpnmolcaa
open Go.RowKit Go.ChangeMaps Go.WideMaps Go.Maps
set_option linter.unusedVariables false
set_option linter.unusedSimpArgs false
def addA (ats : List Attr) (a : Attr) : List Attr := if (ats.findIdx? (byName a.name)).isSome then ats else ats ++ [a]
def firstsP (l : List Attr) : List Attr := l.foldl addA []
theorem firsts_take {l : List Attr} {k : Nat} (hk : k < l.length) : firstsP (l.take (k + 1)) = addA (firstsP (l.take k)) l[k] := by
  unfold firstsP
  rw [List.take_succ_eq_append_getElem hk, List.foldl_append]; rfl
theorem find_none {ats : List Attr} {s : S} (h : (ats.findIdx? (byName s)).isSome = false) : ∀ a ∈ ats, a.name ≠ s := by
  intro a ha
  have h1 : ats.findIdx? (byName s) = none := by simpa using h
  rw [List.findIdx?_eq_none_iff] at h1
  have := h1 a ha
  simpa [byName] using this
theorem firsts_facts (l : List Attr) : (firstsP l).length ≤ l.length ∧ (∀ a ∈ firstsP l, a ∈ l) ∧ (firstsP l).Pairwise (fun a b => a.name ≠ b.name) := by
  have key : ∀ k, k ≤ l.length → (firstsP (l.take k)).length ≤ k ∧ (∀ a ∈ firstsP (l.take k), a ∈ l) ∧ (firstsP (l.take k)).Pairwise (fun a b => a.name ≠ b.name) := by
    intro k
    induction k with
    | zero => intro _; exact ⟨by simp [firstsP], fun a h => by simp [firstsP] at h, by simp [firstsP]⟩
    | succ k ih =>
      intro hk
      obtain ⟨h1, h2, h3⟩ := ih (by omega)
      rw [firsts_take hk]
      unfold addA
      split
      · exact ⟨by omega, h2, h3⟩
      · rename_i hn
        have hn2 := find_none (by simpa using hn : ((firstsP (l.take k)).findIdx? (byName l[k].name)).isSome = false)
        refine ⟨by simp; omega, fun a ha => ?_, ?_⟩
        · rcases List.mem_append.1 ha with ha | ha
          · exact h2 a ha
          · obtain rfl := List.mem_singleton.1 ha
            exact List.getElem_mem hk
        · rw [List.pairwise_append]
          exact ⟨h3, List.pairwise_singleton _ _, fun a ha b hb => by obtain rfl := List.mem_singleton.1 hb; exact hn2 a ha⟩
  have := key l.length (Nat.le_refl _)
  rwa [List.take_length] at this
theorem find_snoc (ats : List Attr) (a : Attr) (s : S) : ((ats ++ [a]).findIdx? (byName s)).isSome = ((ats.findIdx? (byName s)).isSome || (a.name == s)) := by
  rw [List.findIdx?_append]
  cases ats.findIdx? (byName s) with
  | some i => simp
  | none => by_cases e : a.name = s <;> simp [byName, List.findIdx?_cons, e]
theorem idOf_snoc {ats : List Attr} {a : Attr} (h : (ats.findIdx? (byName a.name)).isSome = false) (s : S) : idOf (ats ++ [a]) s = if s = a.name then a.id else idOf ats s := by
  unfold idOf
  rw [List.findIdx?_append]
  by_cases e : s = a.name
  · subst e
    rw [if_pos rfl]
    have h1 : ats.findIdx? (byName a.name) = none := by simpa using h
    rw [h1]
    simp [byName, List.findIdx?_cons, findA, List.getD_eq_getElem?_getD]
  · rw [if_neg e]
    cases hf : ats.findIdx? (byName s) with
    | some i =>
      have hi : i < ats.length := (List.findIdx?_eq_some_iff_getElem.1 hf).1
      simp [findA, List.getD_eq_getElem?_getD, List.getElem?_append_left hi]
    | none =>
      have hne : (a.name == s) = false := by simpa using fun h => e h.symm
      simp [byName, List.findIdx?_cons, hne, findA]

/-! ### the names' map while it is filled -/
abbrev OwnAt := Own Attr.enc 28 7
theorem Attr.enc_len (a : Attr) : (Attr.enc a).length = 7 := rfl
theorem Attr.enc_one (x : Attr) : ∀ u ∈ Attr.enc x, u.oneCell' = true := fun u hu => by
  simp only [Attr.enc, List.mem_cons, List.not_mem_nil, or_false] at hu
  rcases hu with rfl | rfl | rfl | rfl | rfl | rfl | rfl <;> rfl
theorem infoAt : (Try.prog.info? 28).map (fun i => (i.zero, i.size, i.bytes)) = some (some (.agg #[.int .i64 0, .string ⟨#[]⟩, .int .i64 0, .bool false, .int .i64 0, .bool false, .bool false]), 7, 56) := by kernel_rfl
def NamesAt (M k : Nat) (w : World) (ats : List Attr) : Prop :=
  ∃ (D : DataW Unit), w.ownsMap Try.prog 9 (plainElem Try.prog 2) M k D ∧ Maps.IsMap D ∧ (∀ s, D.atKey (.string s) (.lit (.int .i64 0)) = .lit (.int .i64 (idOf ats s))) ∧ ∀ s, Maps.has D (.string s) = (ats.findIdx? (byName s)).isSome
theorem NamesAt.made (w : World) : NamesAt w.heap.size 0 (w.alloc (.map #[] 0)) [] := ⟨.map [], World.ownsMap_made _ _ _ _, Maps.isMap_empty, fun s => rfl, fun s => rfl⟩
theorem NamesAt.names {M k : Nat} {w : World} {ats : List Attr} (h : NamesAt M k w ats) : NamesIn M w ats := by
  obtain ⟨D, h1, -, h3, h4⟩ := h
  exact ⟨k, D, h1, h3, h4⟩
theorem NamesAt.same {M k : Nat} {w w' : World} {ats : List Attr} (h : NamesAt M k w ats) (hb : w'.heap[M]? = w.heap[M]?) : NamesAt M k w' ats := by
  obtain ⟨D, ⟨es, cl, h1, h2⟩, h3⟩ := h
  exact ⟨D, ⟨es, cl, hb.trans h1, h2⟩, h3⟩
theorem Only.grown {w w' : World} {M : Nat} (h : w.grownBy w' (some M)) : Only (· = M) w w' := ⟨h.os, h.tape, h.output, h.size, fun k hk hn => h.block k hk (fun e => by injection e with e; exact hn e)⟩
theorem NamesAt.put {M k : Nat} {w : World} {ats : List Attr} (h : NamesAt M k w ats) {a : Attr} (hf : (ats.findIdx? (byName a.name)).isSome = false) (hs : a.name.length ≤ 281474976710656) (hid : -9223372036854775808 ≤ a.id ∧ a.id ≤ 9223372036854775807) (hk : k ≤ 1000) :
    ∃ w', (Instr.mapUpdate 47 (.map (some M)) (.string ⟨a.name.toArray⟩) (.int .i64 a.id)).run Try.prog w = .ok () w' ∧ NamesAt M (k + 1) w' (ats ++ [a]) ∧ Only (· = M) w w' := by
  obtain ⟨D, h1, h2, h3, h4⟩ := h
  have hw : (Lit.int .i64 a.id).wf = true := by simp [Lit.wf, IntKind.min, IntKind.max, IntKind.signed, IntKind.bits]; omega
  obtain ⟨w', hrun, r1, r2⟩ := h1.update lawS Try.underlying47 (by simp only [maxLen]; omega) (keyOf_s hs) (plainElem_int Try.underlying2 hw)
  refine ⟨w', hrun, ⟨_, r1, h2.put _ _, fun s => ?_, fun s => ?_⟩, Only.grown r2⟩
  · rw [idOf_snoc hf]
    by_cases e : s = a.name
    · subst e
      rw [if_pos rfl, atKey_put_same h2 (keyS _)]
    · rw [if_neg e, atKey_put_other (fun e2 => e (by injection e2)), h3 s]
  · rw [find_snoc]
    by_cases e : s = a.name
    · subst e
      rw [has_put_same h2 (keyS _)]
      simp
    · rw [has_put_other (fun e2 => e (by injection e2)), h4 s]
      have hne : (a.name == s) = false := by simpa using fun h => e h.symm
      rw [hne, Bool.or_false]

/-! ### a puller under way -/
structure PAt (B M k : Nat) (w0 w : World) (lv av : Value) (U1 U2 : List Attr) : Prop where
  below : Below w0.heap.size w0 w
  blk : Blk w B [lv, .map (some M), av, .int .i64 0, .bool false] 49
  names : NamesAt M k w U1
  own : OwnAt (B + 1) w av U2
  mB : M < B
  mb : w0.heap.size ≤ M
theorem PAt.only {B M k k' : Nat} {w0 w w' : World} {lv av : Value} {U1 U1' U2 : List Attr} (h : PAt B M k w0 w lv av U1 U2) (hO : Only (· = M) w w') (hn : NamesAt M k' w' U1') : PAt B M k' w0 w' lv av U1' U2 :=
  ⟨h.below.trans (hO.below h.below.size (fun k e => by have : k = M := e; have := h.mb; omega)), hO.blk h.blk (fun e => by have : B = M := e; have := h.mB; omega), hn, Own.turn h.own hO (by have := h.mB; omega), h.mB, h.mb⟩
theorem PAt.step {B M k : Nat} {w0 w w' : World} {lv av : Value} {U1 U2 : List Attr} (h : PAt B M k w0 w lv av U1 U2) (hB : Below w.heap.size w w') : PAt B M k w0 w' lv av U1 U2 :=
  h.only (Below.only hB) (h.names.same (hB.block M h.names.names.lt))
theorem PAt.app {B M k : Nat} {w0 w w' : World} {lv av v' : Value} {U1 U2 U3 : List Attr} (h : PAt B M k w0 w lv av U1 U2) (ha : Appended w av w' v') (ho : OwnAt (B + 1) w' v' U3) : PAt B M k w0 (w'.setCell ⟨B, 2, none⟩ v') lv v' U1 U3 := by
  have h1 := h.mB
  have h2 := h.mb
  have h3 := h.below.size
  have hb := ha.blk h.blk (fun e => by have := (Own.lt h.own _ e).1; omega)
  have hB : Below w0.heap.size w w' := ha.below h3 (fun k e => by have := (Own.lt h.own k e).1; omega)
  refine ⟨(h.below.trans hB).setCell (p := ⟨B, 2, none⟩) (by show w0.heap.size ≤ B; omega) _, hb.set 2 v', h.names.same ?_, ?_, h1, h2⟩
  · refine (Below.heap_setCell _ _ _ _ (by show M ≠ B; omega)).trans ?_
    exact ha.grown.block M h.names.names.lt (fun e => by have := (Own.lt h.own _ e.symm).1; omega)
  · exact Own.turn ho (onlySet w' B 2 v') (by omega)
/-- The document's. -/
structure RAt (B : Nat) (w0 w : World) (lv av : Value) (U : List Attr) : Prop where
  below : Below w0.heap.size w0 w
  blk : Blk w B [lv, av, .int .i64 0] 57
  own : OwnAt (B + 1) w av U
  mb : w0.heap.size ≤ B
theorem RAt.step {B : Nat} {w0 w w' : World} {lv av : Value} {U : List Attr} (h : RAt B w0 w lv av U) (hB : Below w.heap.size w w') : RAt B w0 w' lv av U :=
  ⟨h.below.trans (hB.mono h.below.size), h.blk.below hB h.blk.lt, Own.kept h.own hB, h.mb⟩
theorem RAt.app {B : Nat} {w0 w w' : World} {lv av v' : Value} {U U3 : List Attr} (h : RAt B w0 w lv av U) (ha : Appended w av w' v') (ho : OwnAt (B + 1) w' v' U3) : RAt B w0 (w'.setCell ⟨B, 1, none⟩ v') lv v' U3 := by
  have h2 := h.mb
  have h3 := h.below.size
  have hb := ha.blk h.blk (fun e => by have := (Own.lt h.own _ e).1; omega)
  have hB : Below w0.heap.size w w' := ha.below h3 (fun k e => by have := (Own.lt h.own k e).1; omega)
  exact ⟨(h.below.trans hB).setCell (p := ⟨B, 1, none⟩) h2 _, hb.set 1 v', Own.turn ho (onlySet w' B 1 v') (by omega), h2⟩

/-! ### what a pull answers -/
def errP (d : Nat) (attrs : List Attr) (fs : List Ft) (e : Int) (p : List It) : Int :=
  if mayPat p = false then 190 else if factsB fs = false then 60 else if knownL (firstsP attrs) p = false then 200 else if 10000 < Tr.size d (treeP fs (firstsP attrs) d e p [e]) then 201 else 0
structure PullOut (d : Nat) (attrs : List Attr) (fs : List Ft) (e : Int) (p : List It) (lo : Nat) (w' : World) (a : Option Addr) (n c : Nat) (err : Int) : Prop where
  code : err = errP d attrs fs e p
  bad : err ≠ 0 → a = none ∧ n = 0 ∧ c = 0
  good : err = 0 → TrIn d lo w'.heap.size w' (.slice a n c) (treeP fs (firstsP attrs) d e p [e]) ∧ Tr.size d (treeP fs (firstsP attrs) d e p [e]) ≤ 10000
section
variable {d : Nat} {attrs : List Attr} {fs : List Ft} {e : Int} {p : List It} {lo : Nat} {w' : World} {a : Option Addr} {n c : Nat}
theorem PullOut.e190 (h : mayPat p = false) : PullOut d attrs fs e p lo w' none 0 0 190 := ⟨by unfold errP; rw [if_pos h], fun _ => ⟨rfl, rfl, rfl⟩, fun h => by cases h⟩
theorem PullOut.e60 (h : mayPat p = true) (h2 : factsB fs = false) : PullOut d attrs fs e p lo w' none 0 0 60 := ⟨by unfold errP; rw [if_neg (by rw [h]; decide), if_pos h2], fun _ => ⟨rfl, rfl, rfl⟩, fun h => by cases h⟩
theorem PullOut.e200 (h : mayPat p = true) (h2 : factsB fs = true) (h3 : knownL (firstsP attrs) p = false) : PullOut d attrs fs e p lo w' none 0 0 200 := ⟨by unfold errP; rw [if_neg (by rw [h]; decide), if_neg (by rw [h2]; decide), if_pos h3], fun _ => ⟨rfl, rfl, rfl⟩, fun h => by cases h⟩
theorem PullOut.e201 (h : mayPat p = true) (h2 : factsB fs = true) (h3 : knownL (firstsP attrs) p = true) (h4 : 10000 < Tr.size d (treeP fs (firstsP attrs) d e p [e])) : PullOut d attrs fs e p lo w' none 0 0 201 := ⟨by unfold errP; rw [if_neg (by rw [h]; decide), if_neg (by rw [h2]; decide), if_neg (by rw [h3]; decide), if_pos h4], fun _ => ⟨rfl, rfl, rfl⟩, fun h => by cases h⟩
theorem PullOut.e0 (h : mayPat p = true) (h2 : factsB fs = true) (h3 : knownL (firstsP attrs) p = true) (h4 : Tr.size d (treeP fs (firstsP attrs) d e p [e]) ≤ 10000) (ht : TrIn d lo w'.heap.size w' (.slice a n c) (treeP fs (firstsP attrs) d e p [e])) : PullOut d attrs fs e p lo w' a n c 0 := ⟨by unfold errP; rw [if_neg (by rw [h]; decide), if_neg (by rw [h2]; decide), if_neg (by rw [h3]; decide), if_neg (by omega)], fun h => absurd rfl h, fun _ => ⟨ht, h4⟩⟩
/-- Where a tree is too great, the count says so, and only there. -/
theorem TOut.pull {n' : Int} {v : Value} {t : Tr d} (h : TOut d lo w' 0 n' v t) : (Tr.size d t ≤ 10000 ∧ n' ≤ 10000 ∧ TrIn d lo w'.heap.size w' v t) ∨ (10000 < Tr.size d t ∧ 10000 < n') := by
  obtain ⟨h1, h2, h3, h4⟩ := h
  by_cases hs : Tr.size d t ≤ 10000
  · obtain ⟨k1, k2⟩ := h3 (by omega)
    exact .inl ⟨hs, by omega, k2⟩
  · exact .inr ⟨by omega, h4 (by omega)⟩
end
theorem may_fine {l : List It} (h : mayPat l = true) : finePat l = true := by
  unfold mayPat at h
  simp only [Bool.and_eq_true] at h
  exact h.2
end Go.Proofs.Yticbhfmpnmolcaa
end
