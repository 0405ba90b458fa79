/- The document's value at the beginning of bytes. (Printed by readone.py.) -/
import Derived.Test.YtomclldnoockcaaRefRead
namespace Go.Proofs.Ytomclldnoockcaa
open Go.RowKit
set_option linter.unusedVariables false
set_option linter.unusedSimpArgs false

theorem oneV_short (b : List UInt8) (h : b.length < 2) : oneV b = none := by
  match b, h with
  | [], _ => rfl
  | [k], _ =>
    simp only [oneV]
    split
    · rfl
    · split
      · simp [txt]
      · simp
theorem drop_two {b : List UInt8} {n : Nat} (h : n + 1 < b.length) : b.drop n = b[n] :: b[n + 1] :: b.drop (n + 2) := by
  rw [List.drop_eq_getElem_cons (by omega), List.drop_eq_getElem_cons h]
theorem txt_end (l : List UInt8) (h : l.length ≤ 1) : (txt l).2.2 = true := by
  match l, h with
  | [], _ => rfl
  | [c], _ => unfold txt; split <;> rfl

set_option maxRecDepth 100000 in
set_option maxHeartbeats 16000000 in
theorem one_any (hi : Nat) (bv : Value) (b : List UInt8) (w : World) (hb : Bytes 0 hi w bv b) (hhi : hi ≤ w.heap.size) (hlen : b.length ≤ 100000000) (R : Ending → World → Prop)
    (hok : ∀ v r, oneV b = some (v, r) → ∀ w' (n : Nat), Below w.heap.size w w' → 0 < n → n ≤ b.length → r = b.drop n → R (.returned (.tuple #[.agg #[.int .i64 v.kind, .int .i64 v.n, .string ⟨v.s.toArray⟩], .int .i64 n])) w')
    (hno : oneV b = none → ∀ w' (v : V), Below w.heap.size w w' → R (.returned (.tuple #[.agg #[.int .i64 v.kind, .int .i64 v.n, .string ⟨v.s.toArray⟩], .int .i64 0])) w') :
    Calls Try.prog 32 #[bv] w R := by
  have Hb := Lib.hid hb
  have Hok := Lib.hid hok
  have Hno := Lib.hid hno
  obtain ⟨ao, cap, rfl, k1, k2, -, hc⟩ := hb.form
  have Hc := Lib.hid hc
  have hB0 : Below w.heap.size w (w.alloc (.cells #[.int .i64 0, .int .i64 0, .string ⟨#[]⟩] 37)) := (Below.refl _ _).alloc (Nat.le_refl _) _
  have hbx : Blk (w.alloc (.cells #[.int .i64 0, .int .i64 0, .string ⟨#[]⟩] 37)) w.heap.size [.int .i64 0, .int .i64 0, .string ⟨#[]⟩] 37 := Blk.new _ _ _ rfl
  clear hb hok hno hc
  go_enter Try.func32, Try.ntmps32
  by_cases h2 : b.length < 2
  · have hno2 := oneV_short b h2
    have Hno2 := Lib.hid hno2
    clear hno2
    have f0 := (hbx).free 0
    have f1 := (hbx).free 1
    have f2 := (hbx).free 2
    obtain ⟨d0, d1, d2⟩ := (hbx).cells.c3
    simp only [Nat.zero_add] at d1 d2
    have hltx := (hbx).lt
    have hres := ((((hbx).set 0 (.int .i64 0)).set 1 (.int .i64 0)).set 2 (.string ⟨#[]⟩)).cells.runVar (P := Try.prog) (t := 37) (fun _ => by kernel_rfl) (fun _ => by kernel_rfl)
    have hr := Hno.out (Hno2.out) _ ⟨0, 0, []⟩ (((hB0.setCell (p := ⟨w.heap.size, 0, none⟩) (Nat.le_refl _) (.int .i64 0)).setCell (p := ⟨w.heap.size, 1, none⟩) (Nat.le_refl _) (.int .i64 0)).setCell (p := ⟨w.heap.size, 2, none⟩) (Nat.le_refl _) (.string ⟨#[]⟩))
    have hres2 := (hbx).cells.runVar (P := Try.prog) (t := 37) (fun _ => by kernel_rfl) (fun _ => by kernel_rfl)
    have hr2 := Hno.out (Hno2.out) _ ⟨0, 0, []⟩ hB0
    go_wp2_with fail
    first | exact ret_cell_tmp rfl rfl hres rfl rfl hr | exact ret_cell_tmp rfl rfl hres2 rfl rfl hr2
  obtain ⟨c, d, r, rfl⟩ : ∃ c d r, b = c :: d :: r := by
    match b, h2 with
    | c :: d :: r, _ => exact ⟨c, d, r, rfl⟩
    | [c], h => simp at h
    | [], h => simp at h
  obtain ⟨blk, off, rfl, hb1, hb2, hcc⟩ := Hc.out 0 (by simp)
  have hget : ∀ (W : World), Below w.heap.size w W → ∀ (i : Nat) (h : i < (c :: d :: r).length), W.cell? ⟨blk, off + i, none⟩ = some (.int .u8 (c :: d :: r)[i].toNat) := fun W hW i h => by
    obtain ⟨cs, -, hcs, e⟩ := hcc i h
    subst e
    have := (hcs.agree (.below hW hhi) hb1 hb2).c1
    rwa [Nat.mul_one] at this
  have Hget := Lib.hid hget
  have Hcc := Lib.hid hcc
  have g0 := hget _ hB0 0 (by simp)
  rw [Nat.add_zero, List.getElem_cons_zero] at g0
  have hcl := c.toNat_lt
  obtain ⟨kk, hkk⟩ : ∃ kk : Int, (c.toNat : Int) = kk := ⟨_, rfl⟩
  have Hkk := Lib.hid hkk
  have hk0 : 0 ≤ kk := by omega
  have hk1 : kk < 256 := by omega
  rw [hkk] at g0
  have hwk : wrap64 kk = kk := by unfold wrap64; omega
  have hB1 : Below w.heap.size w ((w.alloc (.cells #[.int .i64 0, .int .i64 0, .string ⟨#[]⟩] 37)).alloc (.cells #[.int .i64 kk, .int .i64 0, .string ⟨#[]⟩] 37)) := hB0.alloc (by simp) _
  have hx1 := hbx.alloc (.cells #[.int .i64 kk, .int .i64 0, .string ⟨#[]⟩] 37)
  have hy1 : Blk ((w.alloc (.cells #[.int .i64 0, .int .i64 0, .string ⟨#[]⟩] 37)).alloc (.cells #[.int .i64 kk, .int .i64 0, .string ⟨#[]⟩] 37)) (w.heap.size + 1) [.int .i64 kk, .int .i64 0, .string ⟨#[]⟩] 37 := Blk.new _ [.int .i64 kk, .int .i64 0, .string ⟨#[]⟩] 37 (by simp)
  have hlx := hbx.lt
  have hrl : r.length ≤ 100000000 := by simp only [List.length_cons] at hlen; omega
  have hlen2 : ((c :: d :: r).length : Int) = (r.length : Int) + 1 + 1 := by simp
  rw [show (c :: d :: r).length = r.length + 2 from rfl] at Hb k1 ⊢
  have hw1s : ((w.alloc (.cells #[.int .i64 0, .int .i64 0, .string ⟨#[]⟩] 37)).alloc (.cells #[.int .i64 kk, .int .i64 0, .string ⟨#[]⟩] 37)).heap.size = w.heap.size + 2 := by simp
  clear hcc hget hcl hkk h2 hbx
  by_cases e2 : kk = 2
  · subst e2
    have hc2 : c = 2 := by rw [← UInt8.toNat_inj]; have := Hkk.out; show c.toNat = 2; omega
    have hone : oneV (c :: d :: r) = chkV ⟨2, d.toNat, []⟩ r := by rw [hc2]; rfl
    have Hone := Lib.hid hone
    have g1 := Hget.out _ hB1 1 (by simp)
    rw [show (c :: d :: r)[1] = d from rfl] at g1
    have hdl := d.toNat_lt
    have hwd : wrap64 (d.toNat : Int) = d.toNat := by unfold wrap64; omega
    have hBn : Below w.heap.size w ((w.alloc (.cells #[.int .i64 0, .int .i64 0, .string ⟨#[]⟩] 37)).alloc (.cells #[.int .i64 2, .int .i64 d.toNat, .string ⟨#[]⟩] 37)) := hB0.alloc (by simp) _
    have Hx6 := Lib.hid ((Blk.new w [.int .i64 0, .int .i64 0, .string ⟨#[]⟩] 37 rfl).alloc (.cells #[.int .i64 2, .int .i64 d.toNat, .string ⟨#[]⟩] 37))
    have Hy6 : Hid (Blk ((w.alloc (.cells #[.int .i64 0, .int .i64 0, .string ⟨#[]⟩] 37)).alloc (.cells #[.int .i64 2, .int .i64 d.toNat, .string ⟨#[]⟩] 37)) (w.heap.size + 1) [.int .i64 2, .int .i64 d.toNat, .string ⟨#[]⟩] 37) := Blk.new _ [.int .i64 2, .int .i64 d.toNat, .string ⟨#[]⟩] 37 (by simp)
    obtain ⟨s0, s1, s2⟩ := hy1.cells.c3
    simp only [Nat.zero_add] at s1 s2
    have s3 := hy1.free 1
    clear hone hc2 hk0 hk1 hwk hx1 hy1 hdl
    obtain ⟨z0, z1, z2⟩ := Hy6.out.cells.c3
    simp only [Nat.zero_add] at z1 z2
    have hlty := Hy6.out.lt
    have hltx := Hx6.out.lt
    go_wp2_with fail
    refine May_any ((⟨2, d.toNat, []⟩ : V)) _ (Nat.zero_le _) _ fun wc hBc => ?_
    have hb2c := Hx6.out.below hBc hltx
    have hb4c := Hy6.out.below hBc hlty
    obtain ⟨y0, y1, y2⟩ := hb4c.cells.c3
    simp only [Nat.zero_add] at y1 y2
    have hlc := hb4c.lt
    have hBc2 := hBn.trans (hBc.mono hBn.size)
    clear z0 z1 z2
    cases hm : mayB ((⟨2, d.toNat, []⟩ : V))
    · have Hm := Lib.hid hm
      clear hm
      have f0 := (hb2c).free 0
      have f1 := (hb2c).free 1
      have f2 := (hb2c).free 2
      obtain ⟨d0, d1, d2⟩ := (hb2c).cells.c3
      simp only [Nat.zero_add] at d1 d2
      have hltx := (hb2c).lt
      have hres := ((((hb2c).set 0 (.int .i64 0)).set 1 (.int .i64 0)).set 2 (.string ⟨#[]⟩)).cells.runVar (P := Try.prog) (t := 37) (fun _ => by kernel_rfl) (fun _ => by kernel_rfl)
      have hr := Hno.out (by rw [Hone.out, chkV, Hm.out]; rfl) _ ⟨0, 0, []⟩ (((hBc2.setCell (p := ⟨w.heap.size, 0, none⟩) (Nat.le_refl _) (.int .i64 0)).setCell (p := ⟨w.heap.size, 1, none⟩) (Nat.le_refl _) (.int .i64 0)).setCell (p := ⟨w.heap.size, 2, none⟩) (Nat.le_refl _) (.string ⟨#[]⟩))
      have hres2 := (hb2c).cells.runVar (P := Try.prog) (t := 37) (fun _ => by kernel_rfl) (fun _ => by kernel_rfl)
      have hr2 := Hno.out (by rw [Hone.out, chkV, Hm.out]; rfl) _ ⟨0, 0, []⟩ hBc2
      go_wp2_with fail
      first | exact ret_cell_tmp rfl rfl hres rfl rfl hr | exact ret_cell_tmp rfl rfl hres2 rfl rfl hr2
    · have f0 := hb2c.free 0
      have f1 := hb2c.free 1
      have f2 := hb2c.free 2
      obtain ⟨d0, d1, d2⟩ := hb2c.cells.c3
      simp only [Nat.zero_add] at d1 d2
      have hltz := hb2c.lt
      have hres := ((((hb2c).set 0 (.int .i64 ((⟨2, d.toNat, []⟩ : V)).kind)).set 1 (.int .i64 ((⟨2, d.toNat, []⟩ : V)).n)).set 2 (.string ⟨((⟨2, d.toNat, []⟩ : V)).s.toArray⟩)).cells.runVar (P := Try.prog) (t := 37) (fun _ => by kernel_rfl) (fun _ => by kernel_rfl)
      have Hm := Lib.hid hm
      clear hm
      have hr := Hok.out _ _ (by rw [Hone.out, chkV, Hm.out]; rfl) _ (2) (((hBc2.setCell (p := ⟨w.heap.size, 0, none⟩) (Nat.le_refl _) (.int .i64 ((⟨2, d.toNat, []⟩ : V)).kind)).setCell (p := ⟨w.heap.size, 1, none⟩) (Nat.le_refl _) (.int .i64 ((⟨2, d.toNat, []⟩ : V)).n)).setCell (p := ⟨w.heap.size, 2, none⟩) (Nat.le_refl _) (.string ⟨((⟨2, d.toNat, []⟩ : V)).s.toArray⟩))
      have hr2 := hr (by simp only [List.length_cons] at *; omega) (by simp only [List.length_cons] at *; omega) (by rfl)
      go_wp2_with fail
      exact ret_cell_tmp rfl rfl hres rfl rfl (fin hr2 (by first | rfl | (simp; omega)))
  have hn2 : c ≠ 2 := fun e => e2 (by have := Hkk.out; rw [e] at this; have h : ((2 : UInt8).toNat : Int) = 2 := rfl; omega)
  by_cases e3 : kk = 3 ∨ kk = 4 ∨ kk = 7
  · have hc3 : c = 3 ∨ c = 4 ∨ c = 7 := by
      have := Hkk.out
      rcases e3 with e | e | e
      · exact .inl (by rw [← UInt8.toNat_inj]; show c.toNat = 3; omega)
      · exact .inr (.inl (by rw [← UInt8.toNat_inj]; show c.toNat = 4; omega))
      · exact .inr (.inr (by rw [← UInt8.toNat_inj]; show c.toNat = 7; omega))
    have hone : oneV (c :: d :: r) = if (txt (d :: r)).2.2 then none else chkV ⟨kk, 0, (txt (d :: r)).1⟩ (txt (d :: r)).2.1 := by
      rw [← Hkk.out]; simp only [oneV]; rw [if_neg hn2, if_pos hc3]
    have Hone := Lib.hid hone
    have Hx1 := Lib.hid hx1
    have Hy1 := Lib.hid hy1
    clear hone hc3 hn2 hk0 hk1
    rcases e3 with rfl | rfl | rfl
    · clear e2 hwk
      go_wp2_with fail
      go_loopw [5, 6] (fun t5 t6 wr => ∃ (n : Nat) (out : List UInt8), 1 ≤ n ∧ n ≤ r.length + 2 ∧ t5 = .int .i64 n ∧ Below w.heap.size w wr ∧ OwnB (w.heap.size + 2) wr t6 out ∧ w.heap.size + 2 ≤ wr.heap.size ∧ Blk wr w.heap.size [.int .i64 0, .int .i64 0, .string ⟨#[]⟩] 37 ∧ Blk wr (w.heap.size + 1) [.int .i64 3, .int .i64 0, .string ⟨#[]⟩] 37 ∧ out.length ≤ n ∧ txt (d :: r) = (out ++ (txt ((c :: d :: r).drop n)).1, (txt ((c :: d :: r).drop n)).2.1, (txt ((c :: d :: r).drop n)).2.2)) (fun t5 _ _ => r.length + 2 - (intOf t5).toNat)
      case atStart => exact ⟨1, [], Nat.le_refl _, by omega, rfl, hB1, Own.nil _ _ _ _ _, by omega, Hx1.out, Hy1.out, by simp, by simp⟩
      case round =>
        obtain ⟨n, out, hn1, hnl, rfl, hB, ho, hsz, hx, hy, hol, ht⟩ := hrel
        have Ht := Lib.hid ht
        have Ho := Lib.hid ho
        have Hx := Lib.hid hx
        have Hy := Lib.hid hy
        have hlen3 : (c :: d :: r).length = r.length + 2 := rfl
        clear ht ho hx hy
        by_cases hlt : n + 1 < r.length + 2
        · have hnn : n < (c :: d :: r).length := by omega
          have hnn1 : n + 1 < (c :: d :: r).length := by omega
          have gx := Hget.out wr hB n hnn
          have gy := Hget.out wr hB (n + 1) hnn1
          have hdt := drop_two (b := c :: d :: r) hnn1
          generalize (c :: d :: r)[n] = x at *
          generalize (c :: d :: r)[n + 1] = y at *
          have Hdt := Lib.hid hdt
          have hdn1 : (c :: d :: r).drop (n + 1) = y :: (c :: d :: r).drop (n + 2) := by
            have h := congrArg List.tail hdt
            rw [List.tail_drop] at h
            exact h
          have Hdn1 := Lib.hid hdn1
          clear hdt hdn1 hnn hnn1 hlen3
          by_cases hx0 : x = 0
          · subst hx0
            have gx' : wr.cell? ⟨blk, off + n, none⟩ = some (.int .u8 0) := gx
            clear gx
            by_cases hy1 : y = 1
            · subst hy1
              have gy' : wr.cell? ⟨blk, off + (n + 1), none⟩ = some (.int .u8 1) := gy
              clear gy
              have e := Ht.out
              rw [Hdt.out, txt_z1, List.append_nil] at e
              have e1 : (txt (d :: r)).1 = out := by rw [e]
              have e22 : (txt (d :: r)).2.1 = (c :: d :: r).drop (n + 2) := by rw [e]
              have e3 : (txt (d :: r)).2.2 = false := by rw [e]
              have E1 := Lib.hid e1
              have E2 := Lib.hid e22
              have E3 := Lib.hid e3
              have hcv := str (OwnB.bytes Ho.out)
              rw [← e1] at hcv
              clear e e1 e22 e3
              have s3 := (Hy.out).free 2
              have hB6 : Below w.heap.size wr (wr.setCell ⟨w.heap.size + 1, 2, none⟩ (.string ⟨(txt (d :: r)).1.toArray⟩)) := (Below.refl _ _).setCell (p := ⟨w.heap.size + 1, 2, none⟩) (by show w.heap.size ≤ w.heap.size + 1; omega) _
              have hBW6 := (hB).trans hB6
              have hx6 : Blk (wr.setCell ⟨w.heap.size + 1, 2, none⟩ (.string ⟨(txt (d :: r)).1.toArray⟩)) w.heap.size [.int .i64 0, .int .i64 0, .string ⟨#[]⟩] 37 := (Hx.out).other (p := ⟨w.heap.size + 1, 2, none⟩) (by show w.heap.size ≠ w.heap.size + 1; omega) _
              have hy6 : Blk (wr.setCell ⟨w.heap.size + 1, 2, none⟩ (.string ⟨(txt (d :: r)).1.toArray⟩)) (w.heap.size + 1) [.int .i64 3, .int .i64 0, .string ⟨(txt (d :: r)).1.toArray⟩] 37 := (Hy.out).set 2 _
              obtain ⟨s0, s1, s2⟩ := (Hy.out).cells.c3
              simp only [Nat.zero_add] at s1 s2
              have Hx6 := Lib.hid hx6
              have Hy6 := Lib.hid hy6
              clear hx6 hy6
              obtain ⟨z0, z1, z2⟩ := Hy6.out.cells.c3
              simp only [Nat.zero_add] at z1 z2
              have hlty := Hy6.out.lt
              have hltx := Hx6.out.lt
              go_wp2_with fail
              refine May_any ((⟨3, 0, (txt (d :: r)).1⟩ : V)) _ ((by have h1 := (txt_length (d :: r)).2; simp only [List.length_cons] at h1; show (txt (d :: r)).1.length ≤ _; omega)) _ fun wc hBc => ?_
              have hb2c := Hx6.out.below hBc hltx
              have hb4c := Hy6.out.below hBc hlty
              obtain ⟨y0, y1, y2⟩ := hb4c.cells.c3
              simp only [Nat.zero_add] at y1 y2
              have hlc := hb4c.lt
              have hBc2 := hBW6.trans (hBc.mono hBW6.size)
              clear z0 z1 z2
              cases hm : mayB ((⟨3, 0, (txt (d :: r)).1⟩ : V))
              · have Hm := Lib.hid hm
                clear hm
                have f0 := (hb2c).free 0
                have f1 := (hb2c).free 1
                have f2 := (hb2c).free 2
                obtain ⟨d0, d1, d2⟩ := (hb2c).cells.c3
                simp only [Nat.zero_add] at d1 d2
                have hltx := (hb2c).lt
                have hres := ((((hb2c).set 0 (.int .i64 0)).set 1 (.int .i64 0)).set 2 (.string ⟨#[]⟩)).cells.runVar (P := Try.prog) (t := 37) (fun _ => by kernel_rfl) (fun _ => by kernel_rfl)
                have hr := Hno.out (by rw [Hone.out, E3.out, chkV, Hm.out]; rfl) _ ⟨0, 0, []⟩ (((hBc2.setCell (p := ⟨w.heap.size, 0, none⟩) (Nat.le_refl _) (.int .i64 0)).setCell (p := ⟨w.heap.size, 1, none⟩) (Nat.le_refl _) (.int .i64 0)).setCell (p := ⟨w.heap.size, 2, none⟩) (Nat.le_refl _) (.string ⟨#[]⟩))
                have hres2 := (hb2c).cells.runVar (P := Try.prog) (t := 37) (fun _ => by kernel_rfl) (fun _ => by kernel_rfl)
                have hr2 := Hno.out (by rw [Hone.out, E3.out, chkV, Hm.out]; rfl) _ ⟨0, 0, []⟩ hBc2
                go_wp2_with fail
                first | exact ret_cell_tmp rfl rfl hres rfl rfl hr | exact ret_cell_tmp rfl rfl hres2 rfl rfl hr2
              · have f0 := hb2c.free 0
                have f1 := hb2c.free 1
                have f2 := hb2c.free 2
                obtain ⟨d0, d1, d2⟩ := hb2c.cells.c3
                simp only [Nat.zero_add] at d1 d2
                have hltz := hb2c.lt
                have hres := ((((hb2c).set 0 (.int .i64 ((⟨3, 0, (txt (d :: r)).1⟩ : V)).kind)).set 1 (.int .i64 ((⟨3, 0, (txt (d :: r)).1⟩ : V)).n)).set 2 (.string ⟨((⟨3, 0, (txt (d :: r)).1⟩ : V)).s.toArray⟩)).cells.runVar (P := Try.prog) (t := 37) (fun _ => by kernel_rfl) (fun _ => by kernel_rfl)
                have Hm := Lib.hid hm
                clear hm
                have hr := Hok.out _ _ (by rw [Hone.out, E3.out, chkV, Hm.out]; rfl) _ (n + 2) (((hBc2.setCell (p := ⟨w.heap.size, 0, none⟩) (Nat.le_refl _) (.int .i64 ((⟨3, 0, (txt (d :: r)).1⟩ : V)).kind)).setCell (p := ⟨w.heap.size, 1, none⟩) (Nat.le_refl _) (.int .i64 ((⟨3, 0, (txt (d :: r)).1⟩ : V)).n)).setCell (p := ⟨w.heap.size, 2, none⟩) (Nat.le_refl _) (.string ⟨((⟨3, 0, (txt (d :: r)).1⟩ : V)).s.toArray⟩))
                have hr2 := hr (by simp only [List.length_cons] at *; omega) (by simp only [List.length_cons] at *; omega) (E2.out)
                go_wp2_with fail
                exact ret_cell_tmp rfl rfl hres rfl rfl (fin hr2 (by first | rfl | (simp; omega)))
            by_cases hyf : y = 255
            · subst hyf
              have gy' : wr.cell? ⟨blk, off + (n + 1), none⟩ = some (.int .u8 255) := gy
              clear gy
              have e := Ht.out
              rw [Hdt.out, txt_zf] at e
              have He := Lib.hid e
              clear e
              go_wp2_with (at_builtin; refine AtApp.of ?_)
              obtain ⟨v4, w4, hr, ho5, ha5⟩ := app1 Ho.out 0 (by omega) hsz
              refine AtApp.go hr rfl rfl rfl rfl ?_
              have hBa : Below (w.heap.size + 2) wr w4 := ha5.below hsz (fun k e => (Own.lt Ho.out k e).1)
              have Ho5 := Lib.hid ho5
              have hB5 := hB.trans (Below.mono hBa (by omega))
              have gx5 : w4.cell? ⟨blk, off + n, none⟩ = some (.int .u8 0) := by rw [World.cell?_of_block (hBa.block blk (by omega))]; exact gx'
              have hs5 := hBa.size
              have Hx5 := Lib.hid (Hx.out.below hBa (by omega))
              have Hy5 := Lib.hid (Hy.out.below hBa (by omega))
              clear hr ho5 ha5 gx' gy'
              go_wp2_with fail
              go_roundw
              case rel => exact ⟨n + 2, out ++ [0], by omega, by omega, by go_num, hB5, Ho5.out, by omega, Hx5.out, Hy5.out, by simp only [List.length_append, List.length_cons, List.length_nil]; omega, by rw [He.out]; simp⟩
              case measure => simp [intOf]; omega
            · have n1 : ((y.toNat : Int) == 1) = false := by
                have : y.toNat ≠ 1 := fun e => hy1 (by rw [← UInt8.toNat_inj]; exact e)
                simp; omega
              have nf : ((y.toNat : Int) == 255) = false := by
                have : y.toNat ≠ 255 := fun e => hyf (by rw [← UInt8.toNat_inj]; exact e)
                simp; omega
              have e := Ht.out
              rw [Hdt.out, txt_zd y _ hy1 hyf] at e
              have e3 : (txt (d :: r)).2.2 = true := by rw [e]
              have hno3 : oneV (c :: d :: r) = none := by rw [Hone.out, e3]; rfl
              have Hno3 := Lib.hid hno3
              clear e e3 hno3 hy1 hyf
              have f0 := (Hx.out).free 0
              have f1 := (Hx.out).free 1
              have f2 := (Hx.out).free 2
              obtain ⟨d0, d1, d2⟩ := (Hx.out).cells.c3
              simp only [Nat.zero_add] at d1 d2
              have hltx := (Hx.out).lt
              have hres := ((((Hx.out).set 0 (.int .i64 0)).set 1 (.int .i64 0)).set 2 (.string ⟨#[]⟩)).cells.runVar (P := Try.prog) (t := 37) (fun _ => by kernel_rfl) (fun _ => by kernel_rfl)
              have hr := Hno.out (Hno3.out) _ ⟨0, 0, []⟩ (((hB.setCell (p := ⟨w.heap.size, 0, none⟩) (Nat.le_refl _) (.int .i64 0)).setCell (p := ⟨w.heap.size, 1, none⟩) (Nat.le_refl _) (.int .i64 0)).setCell (p := ⟨w.heap.size, 2, none⟩) (Nat.le_refl _) (.string ⟨#[]⟩))
              have hres2 := (Hx.out).cells.runVar (P := Try.prog) (t := 37) (fun _ => by kernel_rfl) (fun _ => by kernel_rfl)
              have hr2 := Hno.out (Hno3.out) _ ⟨0, 0, []⟩ hB
              go_wp2_with fail
              first | exact ret_cell_tmp rfl rfl hres rfl rfl hr | exact ret_cell_tmp rfl rfl hres2 rfl rfl hr2
          · have nz : ((x.toNat : Int) == 0) = false := by
              have : x.toNat ≠ 0 := fun e => hx0 (by rw [← UInt8.toNat_inj]; exact e)
              simp; omega
            have e := Ht.out
            rw [Hdt.out, ← Hdn1.out, txt_ne x _ hx0] at e
            have He := Lib.hid e
            clear e hx0 gy
            go_wp2_with (at_builtin; refine AtApp.of ?_)
            obtain ⟨v4, w4, hr, ho5, ha5⟩ := app1 Ho.out x (by omega) hsz
            refine AtApp.go hr rfl rfl rfl rfl ?_
            have hBa : Below (w.heap.size + 2) wr w4 := ha5.below hsz (fun k e => (Own.lt Ho.out k e).1)
            have Ho5 := Lib.hid ho5
            have hB5 := hB.trans (Below.mono hBa (by omega))
            have gx5 : w4.cell? ⟨blk, off + n, none⟩ = some (.int .u8 x.toNat) := by rw [World.cell?_of_block (hBa.block blk (by omega))]; exact gx
            have hs5 := hBa.size
            have Hx5 := Lib.hid (Hx.out.below hBa (by omega))
            have Hy5 := Lib.hid (Hy.out.below hBa (by omega))
            clear hr ho5 ha5 gx
            go_wp2_with fail
            go_roundw
            case rel => exact ⟨n + 1, out ++ [x], by omega, by omega, by go_num, hB5, Ho5.out, by omega, Hx5.out, Hy5.out, by simp only [List.length_append, List.length_cons, List.length_nil]; omega, by rw [He.out]; simp⟩
            case measure => simp [intOf]; omega
        · have e := txt_end ((c :: d :: r).drop n) (by rw [List.length_drop]; omega)
          have e3 : (txt (d :: r)).2.2 = true := by rw [Ht.out]; exact e
          have hno3 : oneV (c :: d :: r) = none := by rw [Hone.out, e3]; rfl
          have Hno3 := Lib.hid hno3
          clear e e3 hno3 hlen3
          have f0 := (Hx.out).free 0
          have f1 := (Hx.out).free 1
          have f2 := (Hx.out).free 2
          obtain ⟨d0, d1, d2⟩ := (Hx.out).cells.c3
          simp only [Nat.zero_add] at d1 d2
          have hltx := (Hx.out).lt
          have hres := ((((Hx.out).set 0 (.int .i64 0)).set 1 (.int .i64 0)).set 2 (.string ⟨#[]⟩)).cells.runVar (P := Try.prog) (t := 37) (fun _ => by kernel_rfl) (fun _ => by kernel_rfl)
          have hr := Hno.out (Hno3.out) _ ⟨0, 0, []⟩ (((hB.setCell (p := ⟨w.heap.size, 0, none⟩) (Nat.le_refl _) (.int .i64 0)).setCell (p := ⟨w.heap.size, 1, none⟩) (Nat.le_refl _) (.int .i64 0)).setCell (p := ⟨w.heap.size, 2, none⟩) (Nat.le_refl _) (.string ⟨#[]⟩))
          have hres2 := (Hx.out).cells.runVar (P := Try.prog) (t := 37) (fun _ => by kernel_rfl) (fun _ => by kernel_rfl)
          have hr2 := Hno.out (Hno3.out) _ ⟨0, 0, []⟩ hB
          go_wp2_with fail
          first | exact ret_cell_tmp rfl rfl hres rfl rfl hr | exact ret_cell_tmp rfl rfl hres2 rfl rfl hr2
    · clear e2 hwk
      go_wp2_with fail
      go_loopw [5, 6] (fun t5 t6 wr => ∃ (n : Nat) (out : List UInt8), 1 ≤ n ∧ n ≤ r.length + 2 ∧ t5 = .int .i64 n ∧ Below w.heap.size w wr ∧ OwnB (w.heap.size + 2) wr t6 out ∧ w.heap.size + 2 ≤ wr.heap.size ∧ Blk wr w.heap.size [.int .i64 0, .int .i64 0, .string ⟨#[]⟩] 37 ∧ Blk wr (w.heap.size + 1) [.int .i64 4, .int .i64 0, .string ⟨#[]⟩] 37 ∧ out.length ≤ n ∧ txt (d :: r) = (out ++ (txt ((c :: d :: r).drop n)).1, (txt ((c :: d :: r).drop n)).2.1, (txt ((c :: d :: r).drop n)).2.2)) (fun t5 _ _ => r.length + 2 - (intOf t5).toNat)
      case atStart => exact ⟨1, [], Nat.le_refl _, by omega, rfl, hB1, Own.nil _ _ _ _ _, by omega, Hx1.out, Hy1.out, by simp, by simp⟩
      case round =>
        obtain ⟨n, out, hn1, hnl, rfl, hB, ho, hsz, hx, hy, hol, ht⟩ := hrel
        have Ht := Lib.hid ht
        have Ho := Lib.hid ho
        have Hx := Lib.hid hx
        have Hy := Lib.hid hy
        have hlen3 : (c :: d :: r).length = r.length + 2 := rfl
        clear ht ho hx hy
        by_cases hlt : n + 1 < r.length + 2
        · have hnn : n < (c :: d :: r).length := by omega
          have hnn1 : n + 1 < (c :: d :: r).length := by omega
          have gx := Hget.out wr hB n hnn
          have gy := Hget.out wr hB (n + 1) hnn1
          have hdt := drop_two (b := c :: d :: r) hnn1
          generalize (c :: d :: r)[n] = x at *
          generalize (c :: d :: r)[n + 1] = y at *
          have Hdt := Lib.hid hdt
          have hdn1 : (c :: d :: r).drop (n + 1) = y :: (c :: d :: r).drop (n + 2) := by
            have h := congrArg List.tail hdt
            rw [List.tail_drop] at h
            exact h
          have Hdn1 := Lib.hid hdn1
          clear hdt hdn1 hnn hnn1 hlen3
          by_cases hx0 : x = 0
          · subst hx0
            have gx' : wr.cell? ⟨blk, off + n, none⟩ = some (.int .u8 0) := gx
            clear gx
            by_cases hy1 : y = 1
            · subst hy1
              have gy' : wr.cell? ⟨blk, off + (n + 1), none⟩ = some (.int .u8 1) := gy
              clear gy
              have e := Ht.out
              rw [Hdt.out, txt_z1, List.append_nil] at e
              have e1 : (txt (d :: r)).1 = out := by rw [e]
              have e22 : (txt (d :: r)).2.1 = (c :: d :: r).drop (n + 2) := by rw [e]
              have e3 : (txt (d :: r)).2.2 = false := by rw [e]
              have E1 := Lib.hid e1
              have E2 := Lib.hid e22
              have E3 := Lib.hid e3
              have hcv := str (OwnB.bytes Ho.out)
              rw [← e1] at hcv
              clear e e1 e22 e3
              have s3 := (Hy.out).free 2
              have hB6 : Below w.heap.size wr (wr.setCell ⟨w.heap.size + 1, 2, none⟩ (.string ⟨(txt (d :: r)).1.toArray⟩)) := (Below.refl _ _).setCell (p := ⟨w.heap.size + 1, 2, none⟩) (by show w.heap.size ≤ w.heap.size + 1; omega) _
              have hBW6 := (hB).trans hB6
              have hx6 : Blk (wr.setCell ⟨w.heap.size + 1, 2, none⟩ (.string ⟨(txt (d :: r)).1.toArray⟩)) w.heap.size [.int .i64 0, .int .i64 0, .string ⟨#[]⟩] 37 := (Hx.out).other (p := ⟨w.heap.size + 1, 2, none⟩) (by show w.heap.size ≠ w.heap.size + 1; omega) _
              have hy6 : Blk (wr.setCell ⟨w.heap.size + 1, 2, none⟩ (.string ⟨(txt (d :: r)).1.toArray⟩)) (w.heap.size + 1) [.int .i64 4, .int .i64 0, .string ⟨(txt (d :: r)).1.toArray⟩] 37 := (Hy.out).set 2 _
              obtain ⟨s0, s1, s2⟩ := (Hy.out).cells.c3
              simp only [Nat.zero_add] at s1 s2
              have Hx6 := Lib.hid hx6
              have Hy6 := Lib.hid hy6
              clear hx6 hy6
              obtain ⟨z0, z1, z2⟩ := Hy6.out.cells.c3
              simp only [Nat.zero_add] at z1 z2
              have hlty := Hy6.out.lt
              have hltx := Hx6.out.lt
              go_wp2_with fail
              refine May_any ((⟨4, 0, (txt (d :: r)).1⟩ : V)) _ ((by have h1 := (txt_length (d :: r)).2; simp only [List.length_cons] at h1; show (txt (d :: r)).1.length ≤ _; omega)) _ fun wc hBc => ?_
              have hb2c := Hx6.out.below hBc hltx
              have hb4c := Hy6.out.below hBc hlty
              obtain ⟨y0, y1, y2⟩ := hb4c.cells.c3
              simp only [Nat.zero_add] at y1 y2
              have hlc := hb4c.lt
              have hBc2 := hBW6.trans (hBc.mono hBW6.size)
              clear z0 z1 z2
              cases hm : mayB ((⟨4, 0, (txt (d :: r)).1⟩ : V))
              · have Hm := Lib.hid hm
                clear hm
                have f0 := (hb2c).free 0
                have f1 := (hb2c).free 1
                have f2 := (hb2c).free 2
                obtain ⟨d0, d1, d2⟩ := (hb2c).cells.c3
                simp only [Nat.zero_add] at d1 d2
                have hltx := (hb2c).lt
                have hres := ((((hb2c).set 0 (.int .i64 0)).set 1 (.int .i64 0)).set 2 (.string ⟨#[]⟩)).cells.runVar (P := Try.prog) (t := 37) (fun _ => by kernel_rfl) (fun _ => by kernel_rfl)
                have hr := Hno.out (by rw [Hone.out, E3.out, chkV, Hm.out]; rfl) _ ⟨0, 0, []⟩ (((hBc2.setCell (p := ⟨w.heap.size, 0, none⟩) (Nat.le_refl _) (.int .i64 0)).setCell (p := ⟨w.heap.size, 1, none⟩) (Nat.le_refl _) (.int .i64 0)).setCell (p := ⟨w.heap.size, 2, none⟩) (Nat.le_refl _) (.string ⟨#[]⟩))
                have hres2 := (hb2c).cells.runVar (P := Try.prog) (t := 37) (fun _ => by kernel_rfl) (fun _ => by kernel_rfl)
                have hr2 := Hno.out (by rw [Hone.out, E3.out, chkV, Hm.out]; rfl) _ ⟨0, 0, []⟩ hBc2
                go_wp2_with fail
                first | exact ret_cell_tmp rfl rfl hres rfl rfl hr | exact ret_cell_tmp rfl rfl hres2 rfl rfl hr2
              · have f0 := hb2c.free 0
                have f1 := hb2c.free 1
                have f2 := hb2c.free 2
                obtain ⟨d0, d1, d2⟩ := hb2c.cells.c3
                simp only [Nat.zero_add] at d1 d2
                have hltz := hb2c.lt
                have hres := ((((hb2c).set 0 (.int .i64 ((⟨4, 0, (txt (d :: r)).1⟩ : V)).kind)).set 1 (.int .i64 ((⟨4, 0, (txt (d :: r)).1⟩ : V)).n)).set 2 (.string ⟨((⟨4, 0, (txt (d :: r)).1⟩ : V)).s.toArray⟩)).cells.runVar (P := Try.prog) (t := 37) (fun _ => by kernel_rfl) (fun _ => by kernel_rfl)
                have Hm := Lib.hid hm
                clear hm
                have hr := Hok.out _ _ (by rw [Hone.out, E3.out, chkV, Hm.out]; rfl) _ (n + 2) (((hBc2.setCell (p := ⟨w.heap.size, 0, none⟩) (Nat.le_refl _) (.int .i64 ((⟨4, 0, (txt (d :: r)).1⟩ : V)).kind)).setCell (p := ⟨w.heap.size, 1, none⟩) (Nat.le_refl _) (.int .i64 ((⟨4, 0, (txt (d :: r)).1⟩ : V)).n)).setCell (p := ⟨w.heap.size, 2, none⟩) (Nat.le_refl _) (.string ⟨((⟨4, 0, (txt (d :: r)).1⟩ : V)).s.toArray⟩))
                have hr2 := hr (by simp only [List.length_cons] at *; omega) (by simp only [List.length_cons] at *; omega) (E2.out)
                go_wp2_with fail
                exact ret_cell_tmp rfl rfl hres rfl rfl (fin hr2 (by first | rfl | (simp; omega)))
            by_cases hyf : y = 255
            · subst hyf
              have gy' : wr.cell? ⟨blk, off + (n + 1), none⟩ = some (.int .u8 255) := gy
              clear gy
              have e := Ht.out
              rw [Hdt.out, txt_zf] at e
              have He := Lib.hid e
              clear e
              go_wp2_with (at_builtin; refine AtApp.of ?_)
              obtain ⟨v4, w4, hr, ho5, ha5⟩ := app1 Ho.out 0 (by omega) hsz
              refine AtApp.go hr rfl rfl rfl rfl ?_
              have hBa : Below (w.heap.size + 2) wr w4 := ha5.below hsz (fun k e => (Own.lt Ho.out k e).1)
              have Ho5 := Lib.hid ho5
              have hB5 := hB.trans (Below.mono hBa (by omega))
              have gx5 : w4.cell? ⟨blk, off + n, none⟩ = some (.int .u8 0) := by rw [World.cell?_of_block (hBa.block blk (by omega))]; exact gx'
              have hs5 := hBa.size
              have Hx5 := Lib.hid (Hx.out.below hBa (by omega))
              have Hy5 := Lib.hid (Hy.out.below hBa (by omega))
              clear hr ho5 ha5 gx' gy'
              go_wp2_with fail
              go_roundw
              case rel => exact ⟨n + 2, out ++ [0], by omega, by omega, by go_num, hB5, Ho5.out, by omega, Hx5.out, Hy5.out, by simp only [List.length_append, List.length_cons, List.length_nil]; omega, by rw [He.out]; simp⟩
              case measure => simp [intOf]; omega
            · have n1 : ((y.toNat : Int) == 1) = false := by
                have : y.toNat ≠ 1 := fun e => hy1 (by rw [← UInt8.toNat_inj]; exact e)
                simp; omega
              have nf : ((y.toNat : Int) == 255) = false := by
                have : y.toNat ≠ 255 := fun e => hyf (by rw [← UInt8.toNat_inj]; exact e)
                simp; omega
              have e := Ht.out
              rw [Hdt.out, txt_zd y _ hy1 hyf] at e
              have e3 : (txt (d :: r)).2.2 = true := by rw [e]
              have hno3 : oneV (c :: d :: r) = none := by rw [Hone.out, e3]; rfl
              have Hno3 := Lib.hid hno3
              clear e e3 hno3 hy1 hyf
              have f0 := (Hx.out).free 0
              have f1 := (Hx.out).free 1
              have f2 := (Hx.out).free 2
              obtain ⟨d0, d1, d2⟩ := (Hx.out).cells.c3
              simp only [Nat.zero_add] at d1 d2
              have hltx := (Hx.out).lt
              have hres := ((((Hx.out).set 0 (.int .i64 0)).set 1 (.int .i64 0)).set 2 (.string ⟨#[]⟩)).cells.runVar (P := Try.prog) (t := 37) (fun _ => by kernel_rfl) (fun _ => by kernel_rfl)
              have hr := Hno.out (Hno3.out) _ ⟨0, 0, []⟩ (((hB.setCell (p := ⟨w.heap.size, 0, none⟩) (Nat.le_refl _) (.int .i64 0)).setCell (p := ⟨w.heap.size, 1, none⟩) (Nat.le_refl _) (.int .i64 0)).setCell (p := ⟨w.heap.size, 2, none⟩) (Nat.le_refl _) (.string ⟨#[]⟩))
              have hres2 := (Hx.out).cells.runVar (P := Try.prog) (t := 37) (fun _ => by kernel_rfl) (fun _ => by kernel_rfl)
              have hr2 := Hno.out (Hno3.out) _ ⟨0, 0, []⟩ hB
              go_wp2_with fail
              first | exact ret_cell_tmp rfl rfl hres rfl rfl hr | exact ret_cell_tmp rfl rfl hres2 rfl rfl hr2
          · have nz : ((x.toNat : Int) == 0) = false := by
              have : x.toNat ≠ 0 := fun e => hx0 (by rw [← UInt8.toNat_inj]; exact e)
              simp; omega
            have e := Ht.out
            rw [Hdt.out, ← Hdn1.out, txt_ne x _ hx0] at e
            have He := Lib.hid e
            clear e hx0 gy
            go_wp2_with (at_builtin; refine AtApp.of ?_)
            obtain ⟨v4, w4, hr, ho5, ha5⟩ := app1 Ho.out x (by omega) hsz
            refine AtApp.go hr rfl rfl rfl rfl ?_
            have hBa : Below (w.heap.size + 2) wr w4 := ha5.below hsz (fun k e => (Own.lt Ho.out k e).1)
            have Ho5 := Lib.hid ho5
            have hB5 := hB.trans (Below.mono hBa (by omega))
            have gx5 : w4.cell? ⟨blk, off + n, none⟩ = some (.int .u8 x.toNat) := by rw [World.cell?_of_block (hBa.block blk (by omega))]; exact gx
            have hs5 := hBa.size
            have Hx5 := Lib.hid (Hx.out.below hBa (by omega))
            have Hy5 := Lib.hid (Hy.out.below hBa (by omega))
            clear hr ho5 ha5 gx
            go_wp2_with fail
            go_roundw
            case rel => exact ⟨n + 1, out ++ [x], by omega, by omega, by go_num, hB5, Ho5.out, by omega, Hx5.out, Hy5.out, by simp only [List.length_append, List.length_cons, List.length_nil]; omega, by rw [He.out]; simp⟩
            case measure => simp [intOf]; omega
        · have e := txt_end ((c :: d :: r).drop n) (by rw [List.length_drop]; omega)
          have e3 : (txt (d :: r)).2.2 = true := by rw [Ht.out]; exact e
          have hno3 : oneV (c :: d :: r) = none := by rw [Hone.out, e3]; rfl
          have Hno3 := Lib.hid hno3
          clear e e3 hno3 hlen3
          have f0 := (Hx.out).free 0
          have f1 := (Hx.out).free 1
          have f2 := (Hx.out).free 2
          obtain ⟨d0, d1, d2⟩ := (Hx.out).cells.c3
          simp only [Nat.zero_add] at d1 d2
          have hltx := (Hx.out).lt
          have hres := ((((Hx.out).set 0 (.int .i64 0)).set 1 (.int .i64 0)).set 2 (.string ⟨#[]⟩)).cells.runVar (P := Try.prog) (t := 37) (fun _ => by kernel_rfl) (fun _ => by kernel_rfl)
          have hr := Hno.out (Hno3.out) _ ⟨0, 0, []⟩ (((hB.setCell (p := ⟨w.heap.size, 0, none⟩) (Nat.le_refl _) (.int .i64 0)).setCell (p := ⟨w.heap.size, 1, none⟩) (Nat.le_refl _) (.int .i64 0)).setCell (p := ⟨w.heap.size, 2, none⟩) (Nat.le_refl _) (.string ⟨#[]⟩))
          have hres2 := (Hx.out).cells.runVar (P := Try.prog) (t := 37) (fun _ => by kernel_rfl) (fun _ => by kernel_rfl)
          have hr2 := Hno.out (Hno3.out) _ ⟨0, 0, []⟩ hB
          go_wp2_with fail
          first | exact ret_cell_tmp rfl rfl hres rfl rfl hr | exact ret_cell_tmp rfl rfl hres2 rfl rfl hr2
    · clear e2 hwk
      go_wp2_with fail
      go_loopw [5, 6] (fun t5 t6 wr => ∃ (n : Nat) (out : List UInt8), 1 ≤ n ∧ n ≤ r.length + 2 ∧ t5 = .int .i64 n ∧ Below w.heap.size w wr ∧ OwnB (w.heap.size + 2) wr t6 out ∧ w.heap.size + 2 ≤ wr.heap.size ∧ Blk wr w.heap.size [.int .i64 0, .int .i64 0, .string ⟨#[]⟩] 37 ∧ Blk wr (w.heap.size + 1) [.int .i64 7, .int .i64 0, .string ⟨#[]⟩] 37 ∧ out.length ≤ n ∧ txt (d :: r) = (out ++ (txt ((c :: d :: r).drop n)).1, (txt ((c :: d :: r).drop n)).2.1, (txt ((c :: d :: r).drop n)).2.2)) (fun t5 _ _ => r.length + 2 - (intOf t5).toNat)
      case atStart => exact ⟨1, [], Nat.le_refl _, by omega, rfl, hB1, Own.nil _ _ _ _ _, by omega, Hx1.out, Hy1.out, by simp, by simp⟩
      case round =>
        obtain ⟨n, out, hn1, hnl, rfl, hB, ho, hsz, hx, hy, hol, ht⟩ := hrel
        have Ht := Lib.hid ht
        have Ho := Lib.hid ho
        have Hx := Lib.hid hx
        have Hy := Lib.hid hy
        have hlen3 : (c :: d :: r).length = r.length + 2 := rfl
        clear ht ho hx hy
        by_cases hlt : n + 1 < r.length + 2
        · have hnn : n < (c :: d :: r).length := by omega
          have hnn1 : n + 1 < (c :: d :: r).length := by omega
          have gx := Hget.out wr hB n hnn
          have gy := Hget.out wr hB (n + 1) hnn1
          have hdt := drop_two (b := c :: d :: r) hnn1
          generalize (c :: d :: r)[n] = x at *
          generalize (c :: d :: r)[n + 1] = y at *
          have Hdt := Lib.hid hdt
          have hdn1 : (c :: d :: r).drop (n + 1) = y :: (c :: d :: r).drop (n + 2) := by
            have h := congrArg List.tail hdt
            rw [List.tail_drop] at h
            exact h
          have Hdn1 := Lib.hid hdn1
          clear hdt hdn1 hnn hnn1 hlen3
          by_cases hx0 : x = 0
          · subst hx0
            have gx' : wr.cell? ⟨blk, off + n, none⟩ = some (.int .u8 0) := gx
            clear gx
            by_cases hy1 : y = 1
            · subst hy1
              have gy' : wr.cell? ⟨blk, off + (n + 1), none⟩ = some (.int .u8 1) := gy
              clear gy
              have e := Ht.out
              rw [Hdt.out, txt_z1, List.append_nil] at e
              have e1 : (txt (d :: r)).1 = out := by rw [e]
              have e22 : (txt (d :: r)).2.1 = (c :: d :: r).drop (n + 2) := by rw [e]
              have e3 : (txt (d :: r)).2.2 = false := by rw [e]
              have E1 := Lib.hid e1
              have E2 := Lib.hid e22
              have E3 := Lib.hid e3
              have hcv := str (OwnB.bytes Ho.out)
              rw [← e1] at hcv
              clear e e1 e22 e3
              have s3 := (Hy.out).free 2
              have hB6 : Below w.heap.size wr (wr.setCell ⟨w.heap.size + 1, 2, none⟩ (.string ⟨(txt (d :: r)).1.toArray⟩)) := (Below.refl _ _).setCell (p := ⟨w.heap.size + 1, 2, none⟩) (by show w.heap.size ≤ w.heap.size + 1; omega) _
              have hBW6 := (hB).trans hB6
              have hx6 : Blk (wr.setCell ⟨w.heap.size + 1, 2, none⟩ (.string ⟨(txt (d :: r)).1.toArray⟩)) w.heap.size [.int .i64 0, .int .i64 0, .string ⟨#[]⟩] 37 := (Hx.out).other (p := ⟨w.heap.size + 1, 2, none⟩) (by show w.heap.size ≠ w.heap.size + 1; omega) _
              have hy6 : Blk (wr.setCell ⟨w.heap.size + 1, 2, none⟩ (.string ⟨(txt (d :: r)).1.toArray⟩)) (w.heap.size + 1) [.int .i64 7, .int .i64 0, .string ⟨(txt (d :: r)).1.toArray⟩] 37 := (Hy.out).set 2 _
              obtain ⟨s0, s1, s2⟩ := (Hy.out).cells.c3
              simp only [Nat.zero_add] at s1 s2
              have Hx6 := Lib.hid hx6
              have Hy6 := Lib.hid hy6
              clear hx6 hy6
              obtain ⟨z0, z1, z2⟩ := Hy6.out.cells.c3
              simp only [Nat.zero_add] at z1 z2
              have hlty := Hy6.out.lt
              have hltx := Hx6.out.lt
              go_wp2_with fail
              refine May_any ((⟨7, 0, (txt (d :: r)).1⟩ : V)) _ ((by have h1 := (txt_length (d :: r)).2; simp only [List.length_cons] at h1; show (txt (d :: r)).1.length ≤ _; omega)) _ fun wc hBc => ?_
              have hb2c := Hx6.out.below hBc hltx
              have hb4c := Hy6.out.below hBc hlty
              obtain ⟨y0, y1, y2⟩ := hb4c.cells.c3
              simp only [Nat.zero_add] at y1 y2
              have hlc := hb4c.lt
              have hBc2 := hBW6.trans (hBc.mono hBW6.size)
              clear z0 z1 z2
              cases hm : mayB ((⟨7, 0, (txt (d :: r)).1⟩ : V))
              · have Hm := Lib.hid hm
                clear hm
                have f0 := (hb2c).free 0
                have f1 := (hb2c).free 1
                have f2 := (hb2c).free 2
                obtain ⟨d0, d1, d2⟩ := (hb2c).cells.c3
                simp only [Nat.zero_add] at d1 d2
                have hltx := (hb2c).lt
                have hres := ((((hb2c).set 0 (.int .i64 0)).set 1 (.int .i64 0)).set 2 (.string ⟨#[]⟩)).cells.runVar (P := Try.prog) (t := 37) (fun _ => by kernel_rfl) (fun _ => by kernel_rfl)
                have hr := Hno.out (by rw [Hone.out, E3.out, chkV, Hm.out]; rfl) _ ⟨0, 0, []⟩ (((hBc2.setCell (p := ⟨w.heap.size, 0, none⟩) (Nat.le_refl _) (.int .i64 0)).setCell (p := ⟨w.heap.size, 1, none⟩) (Nat.le_refl _) (.int .i64 0)).setCell (p := ⟨w.heap.size, 2, none⟩) (Nat.le_refl _) (.string ⟨#[]⟩))
                have hres2 := (hb2c).cells.runVar (P := Try.prog) (t := 37) (fun _ => by kernel_rfl) (fun _ => by kernel_rfl)
                have hr2 := Hno.out (by rw [Hone.out, E3.out, chkV, Hm.out]; rfl) _ ⟨0, 0, []⟩ hBc2
                go_wp2_with fail
                first | exact ret_cell_tmp rfl rfl hres rfl rfl hr | exact ret_cell_tmp rfl rfl hres2 rfl rfl hr2
              · have f0 := hb2c.free 0
                have f1 := hb2c.free 1
                have f2 := hb2c.free 2
                obtain ⟨d0, d1, d2⟩ := hb2c.cells.c3
                simp only [Nat.zero_add] at d1 d2
                have hltz := hb2c.lt
                have hres := ((((hb2c).set 0 (.int .i64 ((⟨7, 0, (txt (d :: r)).1⟩ : V)).kind)).set 1 (.int .i64 ((⟨7, 0, (txt (d :: r)).1⟩ : V)).n)).set 2 (.string ⟨((⟨7, 0, (txt (d :: r)).1⟩ : V)).s.toArray⟩)).cells.runVar (P := Try.prog) (t := 37) (fun _ => by kernel_rfl) (fun _ => by kernel_rfl)
                have Hm := Lib.hid hm
                clear hm
                have hr := Hok.out _ _ (by rw [Hone.out, E3.out, chkV, Hm.out]; rfl) _ (n + 2) (((hBc2.setCell (p := ⟨w.heap.size, 0, none⟩) (Nat.le_refl _) (.int .i64 ((⟨7, 0, (txt (d :: r)).1⟩ : V)).kind)).setCell (p := ⟨w.heap.size, 1, none⟩) (Nat.le_refl _) (.int .i64 ((⟨7, 0, (txt (d :: r)).1⟩ : V)).n)).setCell (p := ⟨w.heap.size, 2, none⟩) (Nat.le_refl _) (.string ⟨((⟨7, 0, (txt (d :: r)).1⟩ : V)).s.toArray⟩))
                have hr2 := hr (by simp only [List.length_cons] at *; omega) (by simp only [List.length_cons] at *; omega) (E2.out)
                go_wp2_with fail
                exact ret_cell_tmp rfl rfl hres rfl rfl (fin hr2 (by first | rfl | (simp; omega)))
            by_cases hyf : y = 255
            · subst hyf
              have gy' : wr.cell? ⟨blk, off + (n + 1), none⟩ = some (.int .u8 255) := gy
              clear gy
              have e := Ht.out
              rw [Hdt.out, txt_zf] at e
              have He := Lib.hid e
              clear e
              go_wp2_with (at_builtin; refine AtApp.of ?_)
              obtain ⟨v4, w4, hr, ho5, ha5⟩ := app1 Ho.out 0 (by omega) hsz
              refine AtApp.go hr rfl rfl rfl rfl ?_
              have hBa : Below (w.heap.size + 2) wr w4 := ha5.below hsz (fun k e => (Own.lt Ho.out k e).1)
              have Ho5 := Lib.hid ho5
              have hB5 := hB.trans (Below.mono hBa (by omega))
              have gx5 : w4.cell? ⟨blk, off + n, none⟩ = some (.int .u8 0) := by rw [World.cell?_of_block (hBa.block blk (by omega))]; exact gx'
              have hs5 := hBa.size
              have Hx5 := Lib.hid (Hx.out.below hBa (by omega))
              have Hy5 := Lib.hid (Hy.out.below hBa (by omega))
              clear hr ho5 ha5 gx' gy'
              go_wp2_with fail
              go_roundw
              case rel => exact ⟨n + 2, out ++ [0], by omega, by omega, by go_num, hB5, Ho5.out, by omega, Hx5.out, Hy5.out, by simp only [List.length_append, List.length_cons, List.length_nil]; omega, by rw [He.out]; simp⟩
              case measure => simp [intOf]; omega
            · have n1 : ((y.toNat : Int) == 1) = false := by
                have : y.toNat ≠ 1 := fun e => hy1 (by rw [← UInt8.toNat_inj]; exact e)
                simp; omega
              have nf : ((y.toNat : Int) == 255) = false := by
                have : y.toNat ≠ 255 := fun e => hyf (by rw [← UInt8.toNat_inj]; exact e)
                simp; omega
              have e := Ht.out
              rw [Hdt.out, txt_zd y _ hy1 hyf] at e
              have e3 : (txt (d :: r)).2.2 = true := by rw [e]
              have hno3 : oneV (c :: d :: r) = none := by rw [Hone.out, e3]; rfl
              have Hno3 := Lib.hid hno3
              clear e e3 hno3 hy1 hyf
              have f0 := (Hx.out).free 0
              have f1 := (Hx.out).free 1
              have f2 := (Hx.out).free 2
              obtain ⟨d0, d1, d2⟩ := (Hx.out).cells.c3
              simp only [Nat.zero_add] at d1 d2
              have hltx := (Hx.out).lt
              have hres := ((((Hx.out).set 0 (.int .i64 0)).set 1 (.int .i64 0)).set 2 (.string ⟨#[]⟩)).cells.runVar (P := Try.prog) (t := 37) (fun _ => by kernel_rfl) (fun _ => by kernel_rfl)
              have hr := Hno.out (Hno3.out) _ ⟨0, 0, []⟩ (((hB.setCell (p := ⟨w.heap.size, 0, none⟩) (Nat.le_refl _) (.int .i64 0)).setCell (p := ⟨w.heap.size, 1, none⟩) (Nat.le_refl _) (.int .i64 0)).setCell (p := ⟨w.heap.size, 2, none⟩) (Nat.le_refl _) (.string ⟨#[]⟩))
              have hres2 := (Hx.out).cells.runVar (P := Try.prog) (t := 37) (fun _ => by kernel_rfl) (fun _ => by kernel_rfl)
              have hr2 := Hno.out (Hno3.out) _ ⟨0, 0, []⟩ hB
              go_wp2_with fail
              first | exact ret_cell_tmp rfl rfl hres rfl rfl hr | exact ret_cell_tmp rfl rfl hres2 rfl rfl hr2
          · have nz : ((x.toNat : Int) == 0) = false := by
              have : x.toNat ≠ 0 := fun e => hx0 (by rw [← UInt8.toNat_inj]; exact e)
              simp; omega
            have e := Ht.out
            rw [Hdt.out, ← Hdn1.out, txt_ne x _ hx0] at e
            have He := Lib.hid e
            clear e hx0 gy
            go_wp2_with (at_builtin; refine AtApp.of ?_)
            obtain ⟨v4, w4, hr, ho5, ha5⟩ := app1 Ho.out x (by omega) hsz
            refine AtApp.go hr rfl rfl rfl rfl ?_
            have hBa : Below (w.heap.size + 2) wr w4 := ha5.below hsz (fun k e => (Own.lt Ho.out k e).1)
            have Ho5 := Lib.hid ho5
            have hB5 := hB.trans (Below.mono hBa (by omega))
            have gx5 : w4.cell? ⟨blk, off + n, none⟩ = some (.int .u8 x.toNat) := by rw [World.cell?_of_block (hBa.block blk (by omega))]; exact gx
            have hs5 := hBa.size
            have Hx5 := Lib.hid (Hx.out.below hBa (by omega))
            have Hy5 := Lib.hid (Hy.out.below hBa (by omega))
            clear hr ho5 ha5 gx
            go_wp2_with fail
            go_roundw
            case rel => exact ⟨n + 1, out ++ [x], by omega, by omega, by go_num, hB5, Ho5.out, by omega, Hx5.out, Hy5.out, by simp only [List.length_append, List.length_cons, List.length_nil]; omega, by rw [He.out]; simp⟩
            case measure => simp [intOf]; omega
        · have e := txt_end ((c :: d :: r).drop n) (by rw [List.length_drop]; omega)
          have e3 : (txt (d :: r)).2.2 = true := by rw [Ht.out]; exact e
          have hno3 : oneV (c :: d :: r) = none := by rw [Hone.out, e3]; rfl
          have Hno3 := Lib.hid hno3
          clear e e3 hno3 hlen3
          have f0 := (Hx.out).free 0
          have f1 := (Hx.out).free 1
          have f2 := (Hx.out).free 2
          obtain ⟨d0, d1, d2⟩ := (Hx.out).cells.c3
          simp only [Nat.zero_add] at d1 d2
          have hltx := (Hx.out).lt
          have hres := ((((Hx.out).set 0 (.int .i64 0)).set 1 (.int .i64 0)).set 2 (.string ⟨#[]⟩)).cells.runVar (P := Try.prog) (t := 37) (fun _ => by kernel_rfl) (fun _ => by kernel_rfl)
          have hr := Hno.out (Hno3.out) _ ⟨0, 0, []⟩ (((hB.setCell (p := ⟨w.heap.size, 0, none⟩) (Nat.le_refl _) (.int .i64 0)).setCell (p := ⟨w.heap.size, 1, none⟩) (Nat.le_refl _) (.int .i64 0)).setCell (p := ⟨w.heap.size, 2, none⟩) (Nat.le_refl _) (.string ⟨#[]⟩))
          have hres2 := (Hx.out).cells.runVar (P := Try.prog) (t := 37) (fun _ => by kernel_rfl) (fun _ => by kernel_rfl)
          have hr2 := Hno.out (Hno3.out) _ ⟨0, 0, []⟩ hB
          go_wp2_with fail
          first | exact ret_cell_tmp rfl rfl hres rfl rfl hr | exact ret_cell_tmp rfl rfl hres2 rfl rfl hr2
  have hc3 : ¬ (c = 3 ∨ c = 4 ∨ c = 7) := fun e => e3 (by
    have := Hkk.out
    rcases e with e | e | e
    · rw [e] at this; exact .inl (by rw [← this]; rfl)
    · rw [e] at this; exact .inr (.inl (by rw [← this]; rfl))
    · rw [e] at this; exact .inr (.inr (by rw [← this]; rfl)))
  have hone : oneV (c :: d :: r) = if (d :: r).length < 8 then none else chkV ⟨kk, numI ((d :: r).take 8), []⟩ ((d :: r).drop 8) := by
    rw [← Hkk.out]; simp only [oneV]; rw [if_neg hn2, if_neg hc3]
  have Hone := Lib.hid hone
  clear hone hc3 hn2 hk0 hk1
  by_cases e4 : kk = 1 ∨ kk = 5 ∨ kk = 6
  · by_cases h9 : r.length + 2 < 9
    · have hno3 : oneV (c :: d :: r) = none := by rw [Hone.out, if_pos (by simp only [List.length_cons]; omega)]
      have Hno3 := Lib.hid hno3
      have h9' : (r.length : Int) + 2 < 9 := by omega
      clear hno3 e2 e3
      rcases e4 with rfl | rfl | rfl
      · clear hwk
        have f0 := (hx1).free 0
        have f1 := (hx1).free 1
        have f2 := (hx1).free 2
        obtain ⟨d0, d1, d2⟩ := (hx1).cells.c3
        simp only [Nat.zero_add] at d1 d2
        have hltx := (hx1).lt
        have hres := ((((hx1).set 0 (.int .i64 0)).set 1 (.int .i64 0)).set 2 (.string ⟨#[]⟩)).cells.runVar (P := Try.prog) (t := 37) (fun _ => by kernel_rfl) (fun _ => by kernel_rfl)
        have hr := Hno.out (Hno3.out) _ ⟨0, 0, []⟩ (((hB1.setCell (p := ⟨w.heap.size, 0, none⟩) (Nat.le_refl _) (.int .i64 0)).setCell (p := ⟨w.heap.size, 1, none⟩) (Nat.le_refl _) (.int .i64 0)).setCell (p := ⟨w.heap.size, 2, none⟩) (Nat.le_refl _) (.string ⟨#[]⟩))
        have hres2 := (hx1).cells.runVar (P := Try.prog) (t := 37) (fun _ => by kernel_rfl) (fun _ => by kernel_rfl)
        have hr2 := Hno.out (Hno3.out) _ ⟨0, 0, []⟩ hB1
        go_wp2_with fail
        first | exact ret_cell_tmp rfl rfl hres rfl rfl hr | exact ret_cell_tmp rfl rfl hres2 rfl rfl hr2
      · clear hwk
        have f0 := (hx1).free 0
        have f1 := (hx1).free 1
        have f2 := (hx1).free 2
        obtain ⟨d0, d1, d2⟩ := (hx1).cells.c3
        simp only [Nat.zero_add] at d1 d2
        have hltx := (hx1).lt
        have hres := ((((hx1).set 0 (.int .i64 0)).set 1 (.int .i64 0)).set 2 (.string ⟨#[]⟩)).cells.runVar (P := Try.prog) (t := 37) (fun _ => by kernel_rfl) (fun _ => by kernel_rfl)
        have hr := Hno.out (Hno3.out) _ ⟨0, 0, []⟩ (((hB1.setCell (p := ⟨w.heap.size, 0, none⟩) (Nat.le_refl _) (.int .i64 0)).setCell (p := ⟨w.heap.size, 1, none⟩) (Nat.le_refl _) (.int .i64 0)).setCell (p := ⟨w.heap.size, 2, none⟩) (Nat.le_refl _) (.string ⟨#[]⟩))
        have hres2 := (hx1).cells.runVar (P := Try.prog) (t := 37) (fun _ => by kernel_rfl) (fun _ => by kernel_rfl)
        have hr2 := Hno.out (Hno3.out) _ ⟨0, 0, []⟩ hB1
        go_wp2_with fail
        first | exact ret_cell_tmp rfl rfl hres rfl rfl hr | exact ret_cell_tmp rfl rfl hres2 rfl rfl hr2
      · clear hwk
        have f0 := (hx1).free 0
        have f1 := (hx1).free 1
        have f2 := (hx1).free 2
        obtain ⟨d0, d1, d2⟩ := (hx1).cells.c3
        simp only [Nat.zero_add] at d1 d2
        have hltx := (hx1).lt
        have hres := ((((hx1).set 0 (.int .i64 0)).set 1 (.int .i64 0)).set 2 (.string ⟨#[]⟩)).cells.runVar (P := Try.prog) (t := 37) (fun _ => by kernel_rfl) (fun _ => by kernel_rfl)
        have hr := Hno.out (Hno3.out) _ ⟨0, 0, []⟩ (((hB1.setCell (p := ⟨w.heap.size, 0, none⟩) (Nat.le_refl _) (.int .i64 0)).setCell (p := ⟨w.heap.size, 1, none⟩) (Nat.le_refl _) (.int .i64 0)).setCell (p := ⟨w.heap.size, 2, none⟩) (Nat.le_refl _) (.string ⟨#[]⟩))
        have hres2 := (hx1).cells.runVar (P := Try.prog) (t := 37) (fun _ => by kernel_rfl) (fun _ => by kernel_rfl)
        have hr2 := Hno.out (Hno3.out) _ ⟨0, 0, []⟩ hB1
        go_wp2_with fail
        first | exact ret_cell_tmp rfl rfl hres rfl rfl hr | exact ret_cell_tmp rfl rfl hres2 rfl rfl hr2
    · have hone2 := Hone.out.trans (if_neg (by simp only [List.length_cons]; omega))
      have Hone2 := Lib.hid hone2
      have hpc := Sl.piece (cap := cap) Hcc.out hb1 hb2 1 (r.length + 1) (cap - 1) (by simp only [List.length_cons]; omega) (by omega) (by simp only [maxLen]; omega)
      rw [show ((c :: d :: r).drop 1) = d :: r from rfl, Nat.one_mul, List.take_of_length_le (by simp)] at hpc
      have h9' : ¬ (r.length : Int) + 2 < 9 := by omega
      have hcp : (1 : Int) ≤ cap := by omega
      have hcn : cap ≠ 1 := by omega
      have Hpc := Lib.hid hpc
      clear hone2 hpc e2 e3
      rcases e4 with rfl | rfl | rfl
      · clear hwk
        have hBn : Below w.heap.size w ((w.alloc (.cells #[.int .i64 0, .int .i64 0, .string ⟨#[]⟩] 37)).alloc (.cells #[.int .i64 1, .int .i64 (numI ((d :: r).take 8)), .string ⟨#[]⟩] 37)) := hB0.alloc (by simp) _
        have Hx6 := Lib.hid ((Blk.new w [.int .i64 0, .int .i64 0, .string ⟨#[]⟩] 37 rfl).alloc (.cells #[.int .i64 1, .int .i64 (numI ((d :: r).take 8)), .string ⟨#[]⟩] 37))
        have Hy6 : Hid (Blk ((w.alloc (.cells #[.int .i64 0, .int .i64 0, .string ⟨#[]⟩] 37)).alloc (.cells #[.int .i64 1, .int .i64 (numI ((d :: r).take 8)), .string ⟨#[]⟩] 37)) (w.heap.size + 1) [.int .i64 1, .int .i64 (numI ((d :: r).take 8)), .string ⟨#[]⟩] 37) := Blk.new _ [.int .i64 1, .int .i64 (numI ((d :: r).take 8)), .string ⟨#[]⟩] 37 (by simp)
        obtain ⟨s0, s1, s2⟩ := hy1.cells.c3
        simp only [Nat.zero_add] at s1 s2
        have s3 := hy1.free 1
        go_wp2_with fail
        refine refnumber_any hi _ (d :: r) _ (Sl.below Hpc.out (flat_loc _) hB1 hhi) (by simp only [List.length_cons]; omega) _ ?_
        clear hx1 hy1
        obtain ⟨z0, z1, z2⟩ := Hy6.out.cells.c3
        simp only [Nat.zero_add] at z1 z2
        have hlty := Hy6.out.lt
        have hltx := Hx6.out.lt
        go_wp2_with fail
        refine May_any ((⟨1, numI ((d :: r).take 8), []⟩ : V)) _ (Nat.zero_le _) _ fun wc hBc => ?_
        have hb2c := Hx6.out.below hBc hltx
        have hb4c := Hy6.out.below hBc hlty
        obtain ⟨y0, y1, y2⟩ := hb4c.cells.c3
        simp only [Nat.zero_add] at y1 y2
        have hlc := hb4c.lt
        have hBc2 := hBn.trans (hBc.mono hBn.size)
        clear z0 z1 z2
        cases hm : mayB ((⟨1, numI ((d :: r).take 8), []⟩ : V))
        · have Hm := Lib.hid hm
          clear hm
          have f0 := (hb2c).free 0
          have f1 := (hb2c).free 1
          have f2 := (hb2c).free 2
          obtain ⟨d0, d1, d2⟩ := (hb2c).cells.c3
          simp only [Nat.zero_add] at d1 d2
          have hltx := (hb2c).lt
          have hres := ((((hb2c).set 0 (.int .i64 0)).set 1 (.int .i64 0)).set 2 (.string ⟨#[]⟩)).cells.runVar (P := Try.prog) (t := 37) (fun _ => by kernel_rfl) (fun _ => by kernel_rfl)
          have hr := Hno.out (by rw [Hone2.out, chkV, Hm.out]; rfl) _ ⟨0, 0, []⟩ (((hBc2.setCell (p := ⟨w.heap.size, 0, none⟩) (Nat.le_refl _) (.int .i64 0)).setCell (p := ⟨w.heap.size, 1, none⟩) (Nat.le_refl _) (.int .i64 0)).setCell (p := ⟨w.heap.size, 2, none⟩) (Nat.le_refl _) (.string ⟨#[]⟩))
          have hres2 := (hb2c).cells.runVar (P := Try.prog) (t := 37) (fun _ => by kernel_rfl) (fun _ => by kernel_rfl)
          have hr2 := Hno.out (by rw [Hone2.out, chkV, Hm.out]; rfl) _ ⟨0, 0, []⟩ hBc2
          go_wp2_with fail
          first | exact ret_cell_tmp rfl rfl hres rfl rfl hr | exact ret_cell_tmp rfl rfl hres2 rfl rfl hr2
        · have f0 := hb2c.free 0
          have f1 := hb2c.free 1
          have f2 := hb2c.free 2
          obtain ⟨d0, d1, d2⟩ := hb2c.cells.c3
          simp only [Nat.zero_add] at d1 d2
          have hltz := hb2c.lt
          have hres := ((((hb2c).set 0 (.int .i64 ((⟨1, numI ((d :: r).take 8), []⟩ : V)).kind)).set 1 (.int .i64 ((⟨1, numI ((d :: r).take 8), []⟩ : V)).n)).set 2 (.string ⟨((⟨1, numI ((d :: r).take 8), []⟩ : V)).s.toArray⟩)).cells.runVar (P := Try.prog) (t := 37) (fun _ => by kernel_rfl) (fun _ => by kernel_rfl)
          have Hm := Lib.hid hm
          clear hm
          have hr := Hok.out _ _ (by rw [Hone2.out, chkV, Hm.out]; rfl) _ (9) (((hBc2.setCell (p := ⟨w.heap.size, 0, none⟩) (Nat.le_refl _) (.int .i64 ((⟨1, numI ((d :: r).take 8), []⟩ : V)).kind)).setCell (p := ⟨w.heap.size, 1, none⟩) (Nat.le_refl _) (.int .i64 ((⟨1, numI ((d :: r).take 8), []⟩ : V)).n)).setCell (p := ⟨w.heap.size, 2, none⟩) (Nat.le_refl _) (.string ⟨((⟨1, numI ((d :: r).take 8), []⟩ : V)).s.toArray⟩))
          have hr2 := hr (by simp only [List.length_cons] at *; omega) (by simp only [List.length_cons] at *; omega) (by rfl)
          go_wp2_with fail
          exact ret_cell_tmp rfl rfl hres rfl rfl (fin hr2 (by first | rfl | (simp; omega)))
      · clear hwk
        have hBn : Below w.heap.size w ((w.alloc (.cells #[.int .i64 0, .int .i64 0, .string ⟨#[]⟩] 37)).alloc (.cells #[.int .i64 5, .int .i64 (numI ((d :: r).take 8)), .string ⟨#[]⟩] 37)) := hB0.alloc (by simp) _
        have Hx6 := Lib.hid ((Blk.new w [.int .i64 0, .int .i64 0, .string ⟨#[]⟩] 37 rfl).alloc (.cells #[.int .i64 5, .int .i64 (numI ((d :: r).take 8)), .string ⟨#[]⟩] 37))
        have Hy6 : Hid (Blk ((w.alloc (.cells #[.int .i64 0, .int .i64 0, .string ⟨#[]⟩] 37)).alloc (.cells #[.int .i64 5, .int .i64 (numI ((d :: r).take 8)), .string ⟨#[]⟩] 37)) (w.heap.size + 1) [.int .i64 5, .int .i64 (numI ((d :: r).take 8)), .string ⟨#[]⟩] 37) := Blk.new _ [.int .i64 5, .int .i64 (numI ((d :: r).take 8)), .string ⟨#[]⟩] 37 (by simp)
        obtain ⟨s0, s1, s2⟩ := hy1.cells.c3
        simp only [Nat.zero_add] at s1 s2
        have s3 := hy1.free 1
        go_wp2_with fail
        refine refnumber_any hi _ (d :: r) _ (Sl.below Hpc.out (flat_loc _) hB1 hhi) (by simp only [List.length_cons]; omega) _ ?_
        clear hx1 hy1
        obtain ⟨z0, z1, z2⟩ := Hy6.out.cells.c3
        simp only [Nat.zero_add] at z1 z2
        have hlty := Hy6.out.lt
        have hltx := Hx6.out.lt
        go_wp2_with fail
        refine May_any ((⟨5, numI ((d :: r).take 8), []⟩ : V)) _ (Nat.zero_le _) _ fun wc hBc => ?_
        have hb2c := Hx6.out.below hBc hltx
        have hb4c := Hy6.out.below hBc hlty
        obtain ⟨y0, y1, y2⟩ := hb4c.cells.c3
        simp only [Nat.zero_add] at y1 y2
        have hlc := hb4c.lt
        have hBc2 := hBn.trans (hBc.mono hBn.size)
        clear z0 z1 z2
        cases hm : mayB ((⟨5, numI ((d :: r).take 8), []⟩ : V))
        · have Hm := Lib.hid hm
          clear hm
          have f0 := (hb2c).free 0
          have f1 := (hb2c).free 1
          have f2 := (hb2c).free 2
          obtain ⟨d0, d1, d2⟩ := (hb2c).cells.c3
          simp only [Nat.zero_add] at d1 d2
          have hltx := (hb2c).lt
          have hres := ((((hb2c).set 0 (.int .i64 0)).set 1 (.int .i64 0)).set 2 (.string ⟨#[]⟩)).cells.runVar (P := Try.prog) (t := 37) (fun _ => by kernel_rfl) (fun _ => by kernel_rfl)
          have hr := Hno.out (by rw [Hone2.out, chkV, Hm.out]; rfl) _ ⟨0, 0, []⟩ (((hBc2.setCell (p := ⟨w.heap.size, 0, none⟩) (Nat.le_refl _) (.int .i64 0)).setCell (p := ⟨w.heap.size, 1, none⟩) (Nat.le_refl _) (.int .i64 0)).setCell (p := ⟨w.heap.size, 2, none⟩) (Nat.le_refl _) (.string ⟨#[]⟩))
          have hres2 := (hb2c).cells.runVar (P := Try.prog) (t := 37) (fun _ => by kernel_rfl) (fun _ => by kernel_rfl)
          have hr2 := Hno.out (by rw [Hone2.out, chkV, Hm.out]; rfl) _ ⟨0, 0, []⟩ hBc2
          go_wp2_with fail
          first | exact ret_cell_tmp rfl rfl hres rfl rfl hr | exact ret_cell_tmp rfl rfl hres2 rfl rfl hr2
        · have f0 := hb2c.free 0
          have f1 := hb2c.free 1
          have f2 := hb2c.free 2
          obtain ⟨d0, d1, d2⟩ := hb2c.cells.c3
          simp only [Nat.zero_add] at d1 d2
          have hltz := hb2c.lt
          have hres := ((((hb2c).set 0 (.int .i64 ((⟨5, numI ((d :: r).take 8), []⟩ : V)).kind)).set 1 (.int .i64 ((⟨5, numI ((d :: r).take 8), []⟩ : V)).n)).set 2 (.string ⟨((⟨5, numI ((d :: r).take 8), []⟩ : V)).s.toArray⟩)).cells.runVar (P := Try.prog) (t := 37) (fun _ => by kernel_rfl) (fun _ => by kernel_rfl)
          have Hm := Lib.hid hm
          clear hm
          have hr := Hok.out _ _ (by rw [Hone2.out, chkV, Hm.out]; rfl) _ (9) (((hBc2.setCell (p := ⟨w.heap.size, 0, none⟩) (Nat.le_refl _) (.int .i64 ((⟨5, numI ((d :: r).take 8), []⟩ : V)).kind)).setCell (p := ⟨w.heap.size, 1, none⟩) (Nat.le_refl _) (.int .i64 ((⟨5, numI ((d :: r).take 8), []⟩ : V)).n)).setCell (p := ⟨w.heap.size, 2, none⟩) (Nat.le_refl _) (.string ⟨((⟨5, numI ((d :: r).take 8), []⟩ : V)).s.toArray⟩))
          have hr2 := hr (by simp only [List.length_cons] at *; omega) (by simp only [List.length_cons] at *; omega) (by rfl)
          go_wp2_with fail
          exact ret_cell_tmp rfl rfl hres rfl rfl (fin hr2 (by first | rfl | (simp; omega)))
      · clear hwk
        have hBn : Below w.heap.size w ((w.alloc (.cells #[.int .i64 0, .int .i64 0, .string ⟨#[]⟩] 37)).alloc (.cells #[.int .i64 6, .int .i64 (numI ((d :: r).take 8)), .string ⟨#[]⟩] 37)) := hB0.alloc (by simp) _
        have Hx6 := Lib.hid ((Blk.new w [.int .i64 0, .int .i64 0, .string ⟨#[]⟩] 37 rfl).alloc (.cells #[.int .i64 6, .int .i64 (numI ((d :: r).take 8)), .string ⟨#[]⟩] 37))
        have Hy6 : Hid (Blk ((w.alloc (.cells #[.int .i64 0, .int .i64 0, .string ⟨#[]⟩] 37)).alloc (.cells #[.int .i64 6, .int .i64 (numI ((d :: r).take 8)), .string ⟨#[]⟩] 37)) (w.heap.size + 1) [.int .i64 6, .int .i64 (numI ((d :: r).take 8)), .string ⟨#[]⟩] 37) := Blk.new _ [.int .i64 6, .int .i64 (numI ((d :: r).take 8)), .string ⟨#[]⟩] 37 (by simp)
        obtain ⟨s0, s1, s2⟩ := hy1.cells.c3
        simp only [Nat.zero_add] at s1 s2
        have s3 := hy1.free 1
        go_wp2_with fail
        refine refnumber_any hi _ (d :: r) _ (Sl.below Hpc.out (flat_loc _) hB1 hhi) (by simp only [List.length_cons]; omega) _ ?_
        clear hx1 hy1
        obtain ⟨z0, z1, z2⟩ := Hy6.out.cells.c3
        simp only [Nat.zero_add] at z1 z2
        have hlty := Hy6.out.lt
        have hltx := Hx6.out.lt
        go_wp2_with fail
        refine May_any ((⟨6, numI ((d :: r).take 8), []⟩ : V)) _ (Nat.zero_le _) _ fun wc hBc => ?_
        have hb2c := Hx6.out.below hBc hltx
        have hb4c := Hy6.out.below hBc hlty
        obtain ⟨y0, y1, y2⟩ := hb4c.cells.c3
        simp only [Nat.zero_add] at y1 y2
        have hlc := hb4c.lt
        have hBc2 := hBn.trans (hBc.mono hBn.size)
        clear z0 z1 z2
        cases hm : mayB ((⟨6, numI ((d :: r).take 8), []⟩ : V))
        · have Hm := Lib.hid hm
          clear hm
          have f0 := (hb2c).free 0
          have f1 := (hb2c).free 1
          have f2 := (hb2c).free 2
          obtain ⟨d0, d1, d2⟩ := (hb2c).cells.c3
          simp only [Nat.zero_add] at d1 d2
          have hltx := (hb2c).lt
          have hres := ((((hb2c).set 0 (.int .i64 0)).set 1 (.int .i64 0)).set 2 (.string ⟨#[]⟩)).cells.runVar (P := Try.prog) (t := 37) (fun _ => by kernel_rfl) (fun _ => by kernel_rfl)
          have hr := Hno.out (by rw [Hone2.out, chkV, Hm.out]; rfl) _ ⟨0, 0, []⟩ (((hBc2.setCell (p := ⟨w.heap.size, 0, none⟩) (Nat.le_refl _) (.int .i64 0)).setCell (p := ⟨w.heap.size, 1, none⟩) (Nat.le_refl _) (.int .i64 0)).setCell (p := ⟨w.heap.size, 2, none⟩) (Nat.le_refl _) (.string ⟨#[]⟩))
          have hres2 := (hb2c).cells.runVar (P := Try.prog) (t := 37) (fun _ => by kernel_rfl) (fun _ => by kernel_rfl)
          have hr2 := Hno.out (by rw [Hone2.out, chkV, Hm.out]; rfl) _ ⟨0, 0, []⟩ hBc2
          go_wp2_with fail
          first | exact ret_cell_tmp rfl rfl hres rfl rfl hr | exact ret_cell_tmp rfl rfl hres2 rfl rfl hr2
        · have f0 := hb2c.free 0
          have f1 := hb2c.free 1
          have f2 := hb2c.free 2
          obtain ⟨d0, d1, d2⟩ := hb2c.cells.c3
          simp only [Nat.zero_add] at d1 d2
          have hltz := hb2c.lt
          have hres := ((((hb2c).set 0 (.int .i64 ((⟨6, numI ((d :: r).take 8), []⟩ : V)).kind)).set 1 (.int .i64 ((⟨6, numI ((d :: r).take 8), []⟩ : V)).n)).set 2 (.string ⟨((⟨6, numI ((d :: r).take 8), []⟩ : V)).s.toArray⟩)).cells.runVar (P := Try.prog) (t := 37) (fun _ => by kernel_rfl) (fun _ => by kernel_rfl)
          have Hm := Lib.hid hm
          clear hm
          have hr := Hok.out _ _ (by rw [Hone2.out, chkV, Hm.out]; rfl) _ (9) (((hBc2.setCell (p := ⟨w.heap.size, 0, none⟩) (Nat.le_refl _) (.int .i64 ((⟨6, numI ((d :: r).take 8), []⟩ : V)).kind)).setCell (p := ⟨w.heap.size, 1, none⟩) (Nat.le_refl _) (.int .i64 ((⟨6, numI ((d :: r).take 8), []⟩ : V)).n)).setCell (p := ⟨w.heap.size, 2, none⟩) (Nat.le_refl _) (.string ⟨((⟨6, numI ((d :: r).take 8), []⟩ : V)).s.toArray⟩))
          have hr2 := hr (by simp only [List.length_cons] at *; omega) (by simp only [List.length_cons] at *; omega) (by rfl)
          go_wp2_with fail
          exact ret_cell_tmp rfl rfl hres rfl rfl (fin hr2 (by first | rfl | (simp; omega)))
  · have hm : mayB ⟨kk, numI ((d :: r).take 8), []⟩ = false := by
      cases hm : mayB ⟨kk, numI ((d :: r).take 8), []⟩
      · rfl
      · obtain ⟨h1, h2⟩ := mayB_kind hm
        simp only at h1 h2
        omega
    have hno3 : oneV (c :: d :: r) = none := by rw [Hone.out, chkV, hm]; split <;> rfl
    have Hno3 := Lib.hid hno3
    have n1 : (kk == 1) = false := by simp; omega
    have n2 : (kk == 2) = false := by simp; omega
    have n3 : (kk == 3) = false := by simp; omega
    have n4 : (kk == 4) = false := by simp; omega
    have n5 : (kk == 5) = false := by simp; omega
    have n6 : (kk == 6) = false := by simp; omega
    have n7 : (kk == 7) = false := by simp; omega
    clear hno3 hm e2 e3 e4
    have f0 := (hx1).free 0
    have f1 := (hx1).free 1
    have f2 := (hx1).free 2
    obtain ⟨d0, d1, d2⟩ := (hx1).cells.c3
    simp only [Nat.zero_add] at d1 d2
    have hltx := (hx1).lt
    have hres := ((((hx1).set 0 (.int .i64 0)).set 1 (.int .i64 0)).set 2 (.string ⟨#[]⟩)).cells.runVar (P := Try.prog) (t := 37) (fun _ => by kernel_rfl) (fun _ => by kernel_rfl)
    have hr := Hno.out (Hno3.out) _ ⟨0, 0, []⟩ (((hB1.setCell (p := ⟨w.heap.size, 0, none⟩) (Nat.le_refl _) (.int .i64 0)).setCell (p := ⟨w.heap.size, 1, none⟩) (Nat.le_refl _) (.int .i64 0)).setCell (p := ⟨w.heap.size, 2, none⟩) (Nat.le_refl _) (.string ⟨#[]⟩))
    have hres2 := (hx1).cells.runVar (P := Try.prog) (t := 37) (fun _ => by kernel_rfl) (fun _ => by kernel_rfl)
    have hr2 := Hno.out (Hno3.out) _ ⟨0, 0, []⟩ hB1
    go_wp2_with fail
    first | exact ret_cell_tmp rfl rfl hres rfl rfl hr | exact ret_cell_tmp rfl rfl hres2 rfl rfl hr2
end Go.Proofs.Ytomclldnoockcaa
