/- The reader's value. (Printed by readval.py.) -/
import Derived.Test.YtomclldnoockcaaReadText
namespace Go.Proofs.Ytomclldnoockcaa
open Go.RowKit

theorem tail_facts {w W : World} {rb hi b2 : Nat} {r : List UInt8} {bad : Bool} {x0 x1 x2 : Value} {t : TypeId} (ho : Only (· = rb) w W) (hrd : RdAt rb hi W r bad) (hb : Blk W b2 [x0, x1, x2] t) (h2 : w.heap.size ≤ b2) (hrw : rb < w.heap.size) (hhi : hi ≤ w.heap.size) (hrb : hi ≤ rb) (b : Bool) (k n s : Value) :
    Only (· = rb) w ((((W.setCell ⟨rb, 1, none⟩ (.bool b)).setCell ⟨b2, 0, none⟩ k).setCell ⟨b2, 1, none⟩ n).setCell ⟨b2, 2, none⟩ s) ∧
    RdAt rb hi ((((W.setCell ⟨rb, 1, none⟩ (.bool b)).setCell ⟨b2, 0, none⟩ k).setCell ⟨b2, 1, none⟩ n).setCell ⟨b2, 2, none⟩ s) r b ∧
    Blk ((((W.setCell ⟨rb, 1, none⟩ (.bool b)).setCell ⟨b2, 0, none⟩ k).setCell ⟨b2, 1, none⟩ n).setCell ⟨b2, 2, none⟩ s) b2 [k, n, s] t := by
  have h1 : Only (· = rb) W (W.setCell ⟨rb, 1, none⟩ (.bool b)) := Only.setCell (A := (· = rb)) W (p := ⟨rb, 1, none⟩) rfl _
  have hB : Below w.heap.size (W.setCell ⟨rb, 1, none⟩ (.bool b)) ((((W.setCell ⟨rb, 1, none⟩ (.bool b)).setCell ⟨b2, 0, none⟩ k).setCell ⟨b2, 1, none⟩ n).setCell ⟨b2, 2, none⟩ s) :=
    (((Below.refl _ _).setCell (p := ⟨b2, 0, none⟩) h2 k).setCell (p := ⟨b2, 1, none⟩) h2 n).setCell (p := ⟨b2, 2, none⟩) h2 s
  obtain ⟨sv, hr, hs⟩ := hrd
  have hr1 : RdAt rb hi (W.setCell ⟨rb, 1, none⟩ (.bool b)) r b := ⟨sv, hr.set 1 _, hs.agree (flat_loc _) (h1.agree (Nat.le_trans hhi ho.size) (fun k hk => .inr (by omega)))⟩
  exact ⟨(ho.trans h1).step hB, hr1.below hB hhi hrw, (((hb.other (p := ⟨rb, 1, none⟩) (by show b2 ≠ rb; omega) _).set 0 k).set 1 n).set 2 s⟩

set_option maxRecDepth 100000 in
set_option maxHeartbeats 16000000 in
theorem rvalue_any (rb hi : Nat) (rest : List UInt8) (w : World) (h : RdAt rb hi w rest false) (hrb : hi ≤ rb) (hhi : hi ≤ w.heap.size) (hlen : rest.length ≤ 100000000) (R : Ending → World → Prop)
    (hok : ∀ v r', oneV rest = some (v, r') → ∀ w', Only (· = rb) w w' → RdAt rb hi w' r' false → R (.returned (.agg #[.int .i64 v.kind, .int .i64 v.n, .string ⟨v.s.toArray⟩])) w')
    (hbad : oneV rest = none → ∀ w' (v : V) r', Only (· = rb) w w' → RdAt rb hi w' r' true → R (.returned (.agg #[.int .i64 v.kind, .int .i64 v.n, .string ⟨v.s.toArray⟩])) w') :
    Calls Try.prog 43 #[.pointer (some ⟨rb, 0, none⟩)] w R := by
  have hrw : rb < w.heap.size := by obtain ⟨sv, hb, -⟩ := h; exact hb.lt
  have Hok := Lib.hid hok
  have Hbad := Lib.hid hbad
  have hB0 : Below w.heap.size w (w.alloc (.cells #[.int .i64 0, .int .i64 0, .string ⟨#[]⟩] 37)) := (Below.refl _ _).alloc (Nat.le_refl _) _
  have Hr0 := Lib.hid (h.below hB0 hhi hrw)
  have hbx : Blk (w.alloc (.cells #[.int .i64 0, .int .i64 0, .string ⟨#[]⟩] 37)) w.heap.size [.int .i64 0, .int .i64 0, .string ⟨#[]⟩] 37 := Blk.new _ _ _ rfl
  have Hx := Lib.hid hbx
  have ho0 : Only (· = rb) w (w.alloc (.cells #[.int .i64 0, .int .i64 0, .string ⟨#[]⟩] 37)) := Only.alloc _ _
  clear hok hbad h hbx
  go_enter Try.func43, Try.ntmps43
  go_wp2_with fail
  refine take_any rb hi 1 (by omega) (by omega) rest false _ Hr0.out hrb (Nat.le_trans hhi hB0.size) _ (fun _ h2 w1 v ho1 hr1 hb1 => ?_) (fun h1 w1 v ho1 hr1 hb1 => ?_)
  · cases rest with
    | nil => simp at h2
    | cons c r =>
    rw [show (c :: r).take 1 = [c] from rfl] at hb1
    rw [show (c :: r).drop 1 = r from rfl] at hr1
    obtain ⟨b, off, cap, rfl, k1, k2, g0⟩ := Bytes.one hb1
    have hcl := c.toNat_lt
    obtain ⟨kk, hkk⟩ : ∃ kk : Int, (c.toNat : Int) = kk := ⟨_, rfl⟩
    have hkn : c.toNat = kk.toNat := by omega
    have Hkk := Lib.hid hkk
    have hk0 : 0 ≤ kk := by omega
    have hk1 : kk < 256 := by omega
    rw [hkk] at g0
    have hwk : wrap64 kk = kk := by unfold wrap64; omega
    clear hcl hkk hkn
    have hx1 := ho1.blk Hx.out (by omega)
    have ho2 := ho0.trans ho1
    have hsz := ho2.size
    have hlt2 := hx1.lt
    have hbz : w.heap.size ≠ w1.heap.size := by omega
    have hbz2 : rb ≠ w1.heap.size := by omega
    have hB1 : Below w1.heap.size w1 (w1.alloc (.cells #[.int .i64 kk, .int .i64 0, .string ⟨#[]⟩] 37)) := (Below.refl _ _).alloc (Nat.le_refl _) _
    have hx3 : Blk (w1.alloc (.cells #[.int .i64 kk, .int .i64 0, .string ⟨#[]⟩] 37)) w1.heap.size [.int .i64 kk, .int .i64 0, .string ⟨#[]⟩] 37 := Blk.new _ _ _ rfl
    have Hr1 := Lib.hid (hr1.below hB1 (Nat.le_trans hhi hsz) (Nat.lt_of_lt_of_le hrw hsz))
    have Hx2 := Lib.hid (hx1.below hB1 hlt2)
    have ho3 := ho2.step (hB1.mono hsz)
    have hsz3 := ho3.size
    clear hr1 hx1 hb1
    by_cases e2 : kk = 2
    · subst e2
      have hc2 : c = 2 := by rw [← UInt8.toNat_inj]; have := Hkk.out; show c.toNat = 2; omega
      clear hk0 hk1 hwk
      go_wp2_with fail
      refine take_any rb hi 1 (by omega) (by omega) r false _ Hr1.out hrb (Nat.le_trans hhi hsz3) _ (fun _ h2 w4 v4 ho4 hr4 hb4 => ?_) (fun h1 w4 v4 ho4 hr4 hb4 => ?_)
      · cases r with
        | nil => simp at h2
        | cons d t =>
        rw [show (d :: t).take 1 = [d] from rfl] at hb4
        rw [show (d :: t).drop 1 = t from rfl] at hr4
        obtain ⟨b4, off4, cap4, rfl, m1, m2, g4⟩ := Bytes.one hb4
        have hone : oneV (c :: d :: t) = chkV ⟨2, d.toNat, []⟩ t := by rw [hc2]; rfl
        have Hone := Lib.hid hone
        have hdl := d.toNat_lt
        have ho5 := ho3.trans ho4
        have hsz5 := ho5.size
        have hx5 := ho4.blk Hx2.out (by omega)
        have hy5 := ho4.blk hx3 (by omega)
        obtain ⟨s0, s1, s2⟩ := hy5.cells.c3
        simp only [Nat.zero_add] at s1 s2
        have s3 := hy5.free 1
        have hwd : wrap64 (d.toNat : Int) = d.toNat := by unfold wrap64; omega
        have hB6 : Below w.heap.size w4 (w4.setCell ⟨w1.heap.size, 1, none⟩ (.int .i64 d.toNat)) := (Below.refl _ _).setCell (p := ⟨w1.heap.size, 1, none⟩) hsz _
        have ho6 := ho5.step hB6
        have hr6 := hr4.below hB6 hhi hrw
        have hx6 : Blk (w4.setCell ⟨w1.heap.size, 1, none⟩ (.int .i64 d.toNat)) w.heap.size [.int .i64 0, .int .i64 0, .string ⟨#[]⟩] 37 := hx5.other (p := ⟨w1.heap.size, 1, none⟩) (by show w.heap.size ≠ w1.heap.size; omega) _
        have hy6 : Blk (w4.setCell ⟨w1.heap.size, 1, none⟩ (.int .i64 d.toNat)) w1.heap.size [.int .i64 2, .int .i64 d.toNat, .string ⟨#[]⟩] 37 := hy5.set 1 _
        have Hr6 := Lib.hid hr6
        have Hx6 := Lib.hid hx6
        have Hy6 := Lib.hid hy6
        clear hone hc2 hb4 hr4 hx5 hy5 hr6 hx6 hy6 h2 hdl hx3
        obtain ⟨svx, hrbx, hsvx⟩ := Hr6.out
        have q1x := hrbx.cells.c2.2
        simp only [Nat.zero_add] at q1x
        have q2x := hrbx.free 1
        obtain ⟨z0, z1, z2⟩ := (Hy6.out).cells.c3
        simp only [Nat.zero_add] at z1 z2
        have hltx := (Hx6.out).lt
        have hlty := (Hy6.out).lt
        have hltz := hrbx.lt
        clear hrbx hsvx
        have Hrd := Lib.hid (Hr6.out)
        have Hb2 := Lib.hid (Hx6.out)
        have Hbs := Lib.hid (Hy6.out)
        go_wp2_with fail
        refine Check_any ((⟨2, d.toNat, []⟩ : V)) _ ((Nat.zero_le _)) _ fun wc hBc => ?_
        have hoc := ho6.step (hBc.mono (ho6).size)
        have hrc := Hrd.out.below hBc (Nat.le_trans hhi (ho6).size) hltz
        have hbc := Hb2.out.below hBc hltx
        have hb3c := Hbs.out.below hBc hlty
        obtain ⟨svy, hrby, -⟩ := hrc
        have hrc := Hrd.out.below hBc (Nat.le_trans hhi (ho6).size) hltz
        have p2x := hrby.free 1
        have p1x := hrby.cells.c2.2
        simp only [Nat.zero_add] at p1x
        obtain ⟨y0, y1, y2⟩ := hb3c.cells.c3
        simp only [Nat.zero_add] at y1 y2
        have f0 := hbc.free 0
        have f1 := hbc.free 1
        have f2 := hbc.free 2
        obtain ⟨d0, d1, d2⟩ := hbc.cells.c3
        simp only [Nat.zero_add] at d1 d2
        have hlc := hbc.lt
        have hld := hrby.lt
        clear hrby z0 z1 z2 q1x q2x
        cases hm : mayB ((⟨2, d.toNat, []⟩ : V))
        · obtain ⟨t1, t2, t3⟩ := tail_facts hoc hrc hbc (Nat.le_refl _) hrw hhi hrb true (.int .i64 ((⟨2, d.toNat, []⟩ : V)).kind) (.int .i64 ((⟨2, d.toNat, []⟩ : V)).n) (.string ⟨((⟨2, d.toNat, []⟩ : V)).s.toArray⟩)
          have hr := (Hbad.out (by rw [Hone.out, chkV, hm]; rfl)) _ ((⟨2, d.toNat, []⟩ : V)) _ t1 t2
          have hres := t3.cells.runVar (P := Try.prog) (t := 37) (fun _ => by kernel_rfl) (fun _ => by kernel_rfl)
          clear t1 t2 t3 hm hrc hbc hb3c
          go_wp2_with fail
          exact ret_cell rfl rfl hres rfl hr
        · obtain ⟨t1, t2, t3⟩ := tail_facts hoc hrc hbc (Nat.le_refl _) hrw hhi hrb false (.int .i64 ((⟨2, d.toNat, []⟩ : V)).kind) (.int .i64 ((⟨2, d.toNat, []⟩ : V)).n) (.string ⟨((⟨2, d.toNat, []⟩ : V)).s.toArray⟩)
          have hr := (Hok.out _ _ (by rw [Hone.out, chkV, hm]; rfl)) _ t1 t2
          have hres := t3.cells.runVar (P := Try.prog) (t := 37) (fun _ => by kernel_rfl) (fun _ => by kernel_rfl)
          clear t1 t2 t3 hm hrc hbc hb3c
          go_wp2_with fail
          exact ret_cell rfl rfl hres rfl hr
      · cases r with
        | cons d t => simp at h1
        | nil =>
        rw [show List.replicate 1 (0 : UInt8) = [0] from rfl] at hb4
        obtain ⟨b4, off4, cap4, rfl, m1, m2, g4⟩ := Bytes.one hb4
        have g4' : w4.cell? ⟨b4, off4, none⟩ = some (.int .u8 0) := g4
        have hone : oneV [c] = none := by rw [hc2]; rfl
        have Hone := Lib.hid hone
        have ho5 := ho3.trans ho4
        have hsz5 := ho5.size
        have hx5 := ho4.blk Hx2.out (by omega)
        have hy5 := ho4.blk hx3 (by omega)
        obtain ⟨s0, s1, s2⟩ := hy5.cells.c3
        simp only [Nat.zero_add] at s1 s2
        have s3 := hy5.free 1
        have hB6 : Below w.heap.size w4 (w4.setCell ⟨w1.heap.size, 1, none⟩ (.int .i64 0)) := (Below.refl _ _).setCell (p := ⟨w1.heap.size, 1, none⟩) hsz _
        have ho6 := ho5.step hB6
        have hr6 := hr4.below hB6 hhi hrw
        have hx6 : Blk (w4.setCell ⟨w1.heap.size, 1, none⟩ (.int .i64 0)) w.heap.size [.int .i64 0, .int .i64 0, .string ⟨#[]⟩] 37 := hx5.other (p := ⟨w1.heap.size, 1, none⟩) (by show w.heap.size ≠ w1.heap.size; omega) _
        have hy6 : Blk (w4.setCell ⟨w1.heap.size, 1, none⟩ (.int .i64 0)) w1.heap.size [.int .i64 2, .int .i64 0, .string ⟨#[]⟩] 37 := hy5.set 1 _
        have Hr6 := Lib.hid hr6
        have Hx6 := Lib.hid hx6
        have Hy6 := Lib.hid hy6
        clear hone hc2 hb4 hr4 hx5 hy5 hr6 hx6 hy6 h1 g4 hx3
        obtain ⟨svx, hrbx, hsvx⟩ := Hr6.out
        have q1x := hrbx.cells.c2.2
        simp only [Nat.zero_add] at q1x
        have q2x := hrbx.free 1
        obtain ⟨z0, z1, z2⟩ := (Hy6.out).cells.c3
        simp only [Nat.zero_add] at z1 z2
        have hltx := (Hx6.out).lt
        have hlty := (Hy6.out).lt
        have hltz := hrbx.lt
        clear hrbx hsvx
        have f0 := (Hx6.out).free 0
        have f1 := (Hx6.out).free 1
        have f2 := (Hx6.out).free 2
        obtain ⟨d0, d1, d2⟩ := (Hx6.out).cells.c3
        simp only [Nat.zero_add] at d1 d2
        obtain ⟨t1, t2, t3⟩ := tail_facts ho6 (Hr6.out) (Hx6.out) (Nat.le_refl _) hrw hhi hrb true (.int .i64 ((⟨2, 0, []⟩ : V)).kind) (.int .i64 ((⟨2, 0, []⟩ : V)).n) (.string ⟨((⟨2, 0, []⟩ : V)).s.toArray⟩)
        have hr := (Hbad.out Hone.out) _ ((⟨2, 0, []⟩ : V)) _ t1 t2
        have hres := t3.cells.runVar (P := Try.prog) (t := 37) (fun _ => by kernel_rfl) (fun _ => by kernel_rfl)
        clear t1 t2 t3
        go_wp2_with fail
        exact ret_cell rfl rfl hres rfl hr
    have hn2 : c ≠ 2 := fun e => e2 (by have := Hkk.out; rw [e] at this; have h : ((2 : UInt8).toNat : Int) = 2 := rfl; omega)
    by_cases e3 : kk = 3 ∨ kk = 4 ∨ kk = 7
    · have hc3 : c = 3 ∨ c = 4 ∨ c = 7 := by
        have := Hkk.out
        rcases e3 with e | e | e
        · exact .inl (by rw [← UInt8.toNat_inj]; show c.toNat = 3; omega)
        · exact .inr (.inl (by rw [← UInt8.toNat_inj]; show c.toNat = 4; omega))
        · exact .inr (.inr (by rw [← UInt8.toNat_inj]; show c.toNat = 7; omega))
      have hone : oneV (c :: r) = if (txt r).2.2 then none else chkV ⟨kk, 0, (txt r).1⟩ (txt r).2.1 := by
        rw [← Hkk.out]; simp only [oneV]; rw [if_neg hn2, if_pos hc3]
      have Hone := Lib.hid hone
      have hrl : r.length ≤ 100000000 := by simp only [List.length_cons] at hlen; omega
      clear hone hc3 hn2 hk0 hk1
      rcases e3 with rfl | rfl | rfl
      · clear e2 hwk
        go_wp2_with fail
        refine rtext_any rb hi r _ Hr1.out hrb (Nat.le_trans hhi hsz3) hrl _ fun w4 ho4 hr4 => ?_
        have ho5 := ho3.trans ho4
        have hsz5 := ho5.size
        have hx5 := ho4.blk Hx2.out (by omega)
        have hy5 := ho4.blk hx3 (by omega)
        obtain ⟨s0, s1, s2⟩ := hy5.cells.c3
        simp only [Nat.zero_add] at s1 s2
        have s3 := hy5.free 2
        have hB6 : Below w.heap.size w4 (w4.setCell ⟨w1.heap.size, 2, none⟩ (.string ⟨(txt r).1.toArray⟩)) := (Below.refl _ _).setCell (p := ⟨w1.heap.size, 2, none⟩) hsz _
        have ho6 := ho5.step hB6
        have hr6 := hr4.below hB6 hhi hrw
        have hx6 : Blk (w4.setCell ⟨w1.heap.size, 2, none⟩ (.string ⟨(txt r).1.toArray⟩)) w.heap.size [.int .i64 0, .int .i64 0, .string ⟨#[]⟩] 37 := hx5.other (p := ⟨w1.heap.size, 2, none⟩) (by show w.heap.size ≠ w1.heap.size; omega) _
        have hy6 : Blk (w4.setCell ⟨w1.heap.size, 2, none⟩ (.string ⟨(txt r).1.toArray⟩)) w1.heap.size [.int .i64 3, .int .i64 0, .string ⟨(txt r).1.toArray⟩] 37 := hy5.set 2 _
        have Hr6 := Lib.hid hr6
        have Hx6 := Lib.hid hx6
        have Hy6 := Lib.hid hy6
        clear hr4 hx5 hy5 hr6 hx6 hy6 hx3
        cases htb : (txt r).2.2
        · rw [htb] at Hr6
          have Htb := Lib.hid htb
          clear htb
          obtain ⟨svx, hrbx, hsvx⟩ := Hr6.out
          have q1x := hrbx.cells.c2.2
          simp only [Nat.zero_add] at q1x
          have q2x := hrbx.free 1
          obtain ⟨z0, z1, z2⟩ := (Hy6.out).cells.c3
          simp only [Nat.zero_add] at z1 z2
          have hltx := (Hx6.out).lt
          have hlty := (Hy6.out).lt
          have hltz := hrbx.lt
          clear hrbx hsvx
          have Hrd := Lib.hid (Hr6.out)
          have Hb2 := Lib.hid (Hx6.out)
          have Hbs := Lib.hid (Hy6.out)
          go_wp2_with fail
          refine Check_any ((⟨3, 0, (txt r).1⟩ : V)) _ ((by have h1 := (txt_length r).2; have h2 := hlen; simp only [List.length_cons] at h2; show (txt r).1.length ≤ _; omega)) _ fun wc hBc => ?_
          have hoc := ho6.step (hBc.mono (ho6).size)
          have hrc := Hrd.out.below hBc (Nat.le_trans hhi (ho6).size) hltz
          have hbc := Hb2.out.below hBc hltx
          have hb3c := Hbs.out.below hBc hlty
          obtain ⟨svy, hrby, -⟩ := hrc
          have hrc := Hrd.out.below hBc (Nat.le_trans hhi (ho6).size) hltz
          have p2x := hrby.free 1
          have p1x := hrby.cells.c2.2
          simp only [Nat.zero_add] at p1x
          obtain ⟨y0, y1, y2⟩ := hb3c.cells.c3
          simp only [Nat.zero_add] at y1 y2
          have f0 := hbc.free 0
          have f1 := hbc.free 1
          have f2 := hbc.free 2
          obtain ⟨d0, d1, d2⟩ := hbc.cells.c3
          simp only [Nat.zero_add] at d1 d2
          have hlc := hbc.lt
          have hld := hrby.lt
          clear hrby z0 z1 z2 q1x q2x
          cases hm : mayB ((⟨3, 0, (txt r).1⟩ : V))
          · obtain ⟨t1, t2, t3⟩ := tail_facts hoc hrc hbc (Nat.le_refl _) hrw hhi hrb true (.int .i64 ((⟨3, 0, (txt r).1⟩ : V)).kind) (.int .i64 ((⟨3, 0, (txt r).1⟩ : V)).n) (.string ⟨((⟨3, 0, (txt r).1⟩ : V)).s.toArray⟩)
            have hr := (Hbad.out (by rw [Hone.out, Htb.out, chkV, hm]; rfl)) _ ((⟨3, 0, (txt r).1⟩ : V)) _ t1 t2
            have hres := t3.cells.runVar (P := Try.prog) (t := 37) (fun _ => by kernel_rfl) (fun _ => by kernel_rfl)
            clear t1 t2 t3 hm hrc hbc hb3c
            go_wp2_with fail
            exact ret_cell rfl rfl hres rfl hr
          · obtain ⟨t1, t2, t3⟩ := tail_facts hoc hrc hbc (Nat.le_refl _) hrw hhi hrb false (.int .i64 ((⟨3, 0, (txt r).1⟩ : V)).kind) (.int .i64 ((⟨3, 0, (txt r).1⟩ : V)).n) (.string ⟨((⟨3, 0, (txt r).1⟩ : V)).s.toArray⟩)
            have hr := (Hok.out _ _ (by rw [Hone.out, Htb.out, chkV, hm]; rfl)) _ t1 t2
            have hres := t3.cells.runVar (P := Try.prog) (t := 37) (fun _ => by kernel_rfl) (fun _ => by kernel_rfl)
            clear t1 t2 t3 hm hrc hbc hb3c
            go_wp2_with fail
            exact ret_cell rfl rfl hres rfl hr
        · rw [htb] at Hr6
          have Htb := Lib.hid htb
          clear htb
          obtain ⟨svx, hrbx, hsvx⟩ := Hr6.out
          have q1x := hrbx.cells.c2.2
          simp only [Nat.zero_add] at q1x
          have q2x := hrbx.free 1
          obtain ⟨z0, z1, z2⟩ := (Hy6.out).cells.c3
          simp only [Nat.zero_add] at z1 z2
          have hltx := (Hx6.out).lt
          have hlty := (Hy6.out).lt
          have hltz := hrbx.lt
          clear hrbx hsvx
          have f0 := (Hx6.out).free 0
          have f1 := (Hx6.out).free 1
          have f2 := (Hx6.out).free 2
          obtain ⟨d0, d1, d2⟩ := (Hx6.out).cells.c3
          simp only [Nat.zero_add] at d1 d2
          obtain ⟨t1, t2, t3⟩ := tail_facts ho6 (Hr6.out) (Hx6.out) (Nat.le_refl _) hrw hhi hrb true (.int .i64 ((⟨3, 0, (txt r).1⟩ : V)).kind) (.int .i64 ((⟨3, 0, (txt r).1⟩ : V)).n) (.string ⟨((⟨3, 0, (txt r).1⟩ : V)).s.toArray⟩)
          have hr := (Hbad.out (by rw [Hone.out, Htb.out]; rfl)) _ ((⟨3, 0, (txt r).1⟩ : V)) _ t1 t2
          have hres := t3.cells.runVar (P := Try.prog) (t := 37) (fun _ => by kernel_rfl) (fun _ => by kernel_rfl)
          clear t1 t2 t3
          go_wp2_with fail
          exact ret_cell rfl rfl hres rfl hr
      · clear e2 hwk
        go_wp2_with fail
        refine rtext_any rb hi r _ Hr1.out hrb (Nat.le_trans hhi hsz3) hrl _ fun w4 ho4 hr4 => ?_
        have ho5 := ho3.trans ho4
        have hsz5 := ho5.size
        have hx5 := ho4.blk Hx2.out (by omega)
        have hy5 := ho4.blk hx3 (by omega)
        obtain ⟨s0, s1, s2⟩ := hy5.cells.c3
        simp only [Nat.zero_add] at s1 s2
        have s3 := hy5.free 2
        have hB6 : Below w.heap.size w4 (w4.setCell ⟨w1.heap.size, 2, none⟩ (.string ⟨(txt r).1.toArray⟩)) := (Below.refl _ _).setCell (p := ⟨w1.heap.size, 2, none⟩) hsz _
        have ho6 := ho5.step hB6
        have hr6 := hr4.below hB6 hhi hrw
        have hx6 : Blk (w4.setCell ⟨w1.heap.size, 2, none⟩ (.string ⟨(txt r).1.toArray⟩)) w.heap.size [.int .i64 0, .int .i64 0, .string ⟨#[]⟩] 37 := hx5.other (p := ⟨w1.heap.size, 2, none⟩) (by show w.heap.size ≠ w1.heap.size; omega) _
        have hy6 : Blk (w4.setCell ⟨w1.heap.size, 2, none⟩ (.string ⟨(txt r).1.toArray⟩)) w1.heap.size [.int .i64 4, .int .i64 0, .string ⟨(txt r).1.toArray⟩] 37 := hy5.set 2 _
        have Hr6 := Lib.hid hr6
        have Hx6 := Lib.hid hx6
        have Hy6 := Lib.hid hy6
        clear hr4 hx5 hy5 hr6 hx6 hy6 hx3
        cases htb : (txt r).2.2
        · rw [htb] at Hr6
          have Htb := Lib.hid htb
          clear htb
          obtain ⟨svx, hrbx, hsvx⟩ := Hr6.out
          have q1x := hrbx.cells.c2.2
          simp only [Nat.zero_add] at q1x
          have q2x := hrbx.free 1
          obtain ⟨z0, z1, z2⟩ := (Hy6.out).cells.c3
          simp only [Nat.zero_add] at z1 z2
          have hltx := (Hx6.out).lt
          have hlty := (Hy6.out).lt
          have hltz := hrbx.lt
          clear hrbx hsvx
          have Hrd := Lib.hid (Hr6.out)
          have Hb2 := Lib.hid (Hx6.out)
          have Hbs := Lib.hid (Hy6.out)
          go_wp2_with fail
          refine Check_any ((⟨4, 0, (txt r).1⟩ : V)) _ ((by have h1 := (txt_length r).2; have h2 := hlen; simp only [List.length_cons] at h2; show (txt r).1.length ≤ _; omega)) _ fun wc hBc => ?_
          have hoc := ho6.step (hBc.mono (ho6).size)
          have hrc := Hrd.out.below hBc (Nat.le_trans hhi (ho6).size) hltz
          have hbc := Hb2.out.below hBc hltx
          have hb3c := Hbs.out.below hBc hlty
          obtain ⟨svy, hrby, -⟩ := hrc
          have hrc := Hrd.out.below hBc (Nat.le_trans hhi (ho6).size) hltz
          have p2x := hrby.free 1
          have p1x := hrby.cells.c2.2
          simp only [Nat.zero_add] at p1x
          obtain ⟨y0, y1, y2⟩ := hb3c.cells.c3
          simp only [Nat.zero_add] at y1 y2
          have f0 := hbc.free 0
          have f1 := hbc.free 1
          have f2 := hbc.free 2
          obtain ⟨d0, d1, d2⟩ := hbc.cells.c3
          simp only [Nat.zero_add] at d1 d2
          have hlc := hbc.lt
          have hld := hrby.lt
          clear hrby z0 z1 z2 q1x q2x
          cases hm : mayB ((⟨4, 0, (txt r).1⟩ : V))
          · obtain ⟨t1, t2, t3⟩ := tail_facts hoc hrc hbc (Nat.le_refl _) hrw hhi hrb true (.int .i64 ((⟨4, 0, (txt r).1⟩ : V)).kind) (.int .i64 ((⟨4, 0, (txt r).1⟩ : V)).n) (.string ⟨((⟨4, 0, (txt r).1⟩ : V)).s.toArray⟩)
            have hr := (Hbad.out (by rw [Hone.out, Htb.out, chkV, hm]; rfl)) _ ((⟨4, 0, (txt r).1⟩ : V)) _ t1 t2
            have hres := t3.cells.runVar (P := Try.prog) (t := 37) (fun _ => by kernel_rfl) (fun _ => by kernel_rfl)
            clear t1 t2 t3 hm hrc hbc hb3c
            go_wp2_with fail
            exact ret_cell rfl rfl hres rfl hr
          · obtain ⟨t1, t2, t3⟩ := tail_facts hoc hrc hbc (Nat.le_refl _) hrw hhi hrb false (.int .i64 ((⟨4, 0, (txt r).1⟩ : V)).kind) (.int .i64 ((⟨4, 0, (txt r).1⟩ : V)).n) (.string ⟨((⟨4, 0, (txt r).1⟩ : V)).s.toArray⟩)
            have hr := (Hok.out _ _ (by rw [Hone.out, Htb.out, chkV, hm]; rfl)) _ t1 t2
            have hres := t3.cells.runVar (P := Try.prog) (t := 37) (fun _ => by kernel_rfl) (fun _ => by kernel_rfl)
            clear t1 t2 t3 hm hrc hbc hb3c
            go_wp2_with fail
            exact ret_cell rfl rfl hres rfl hr
        · rw [htb] at Hr6
          have Htb := Lib.hid htb
          clear htb
          obtain ⟨svx, hrbx, hsvx⟩ := Hr6.out
          have q1x := hrbx.cells.c2.2
          simp only [Nat.zero_add] at q1x
          have q2x := hrbx.free 1
          obtain ⟨z0, z1, z2⟩ := (Hy6.out).cells.c3
          simp only [Nat.zero_add] at z1 z2
          have hltx := (Hx6.out).lt
          have hlty := (Hy6.out).lt
          have hltz := hrbx.lt
          clear hrbx hsvx
          have f0 := (Hx6.out).free 0
          have f1 := (Hx6.out).free 1
          have f2 := (Hx6.out).free 2
          obtain ⟨d0, d1, d2⟩ := (Hx6.out).cells.c3
          simp only [Nat.zero_add] at d1 d2
          obtain ⟨t1, t2, t3⟩ := tail_facts ho6 (Hr6.out) (Hx6.out) (Nat.le_refl _) hrw hhi hrb true (.int .i64 ((⟨4, 0, (txt r).1⟩ : V)).kind) (.int .i64 ((⟨4, 0, (txt r).1⟩ : V)).n) (.string ⟨((⟨4, 0, (txt r).1⟩ : V)).s.toArray⟩)
          have hr := (Hbad.out (by rw [Hone.out, Htb.out]; rfl)) _ ((⟨4, 0, (txt r).1⟩ : V)) _ t1 t2
          have hres := t3.cells.runVar (P := Try.prog) (t := 37) (fun _ => by kernel_rfl) (fun _ => by kernel_rfl)
          clear t1 t2 t3
          go_wp2_with fail
          exact ret_cell rfl rfl hres rfl hr
      · clear e2 hwk
        go_wp2_with fail
        refine rtext_any rb hi r _ Hr1.out hrb (Nat.le_trans hhi hsz3) hrl _ fun w4 ho4 hr4 => ?_
        have ho5 := ho3.trans ho4
        have hsz5 := ho5.size
        have hx5 := ho4.blk Hx2.out (by omega)
        have hy5 := ho4.blk hx3 (by omega)
        obtain ⟨s0, s1, s2⟩ := hy5.cells.c3
        simp only [Nat.zero_add] at s1 s2
        have s3 := hy5.free 2
        have hB6 : Below w.heap.size w4 (w4.setCell ⟨w1.heap.size, 2, none⟩ (.string ⟨(txt r).1.toArray⟩)) := (Below.refl _ _).setCell (p := ⟨w1.heap.size, 2, none⟩) hsz _
        have ho6 := ho5.step hB6
        have hr6 := hr4.below hB6 hhi hrw
        have hx6 : Blk (w4.setCell ⟨w1.heap.size, 2, none⟩ (.string ⟨(txt r).1.toArray⟩)) w.heap.size [.int .i64 0, .int .i64 0, .string ⟨#[]⟩] 37 := hx5.other (p := ⟨w1.heap.size, 2, none⟩) (by show w.heap.size ≠ w1.heap.size; omega) _
        have hy6 : Blk (w4.setCell ⟨w1.heap.size, 2, none⟩ (.string ⟨(txt r).1.toArray⟩)) w1.heap.size [.int .i64 7, .int .i64 0, .string ⟨(txt r).1.toArray⟩] 37 := hy5.set 2 _
        have Hr6 := Lib.hid hr6
        have Hx6 := Lib.hid hx6
        have Hy6 := Lib.hid hy6
        clear hr4 hx5 hy5 hr6 hx6 hy6 hx3
        cases htb : (txt r).2.2
        · rw [htb] at Hr6
          have Htb := Lib.hid htb
          clear htb
          obtain ⟨svx, hrbx, hsvx⟩ := Hr6.out
          have q1x := hrbx.cells.c2.2
          simp only [Nat.zero_add] at q1x
          have q2x := hrbx.free 1
          obtain ⟨z0, z1, z2⟩ := (Hy6.out).cells.c3
          simp only [Nat.zero_add] at z1 z2
          have hltx := (Hx6.out).lt
          have hlty := (Hy6.out).lt
          have hltz := hrbx.lt
          clear hrbx hsvx
          have Hrd := Lib.hid (Hr6.out)
          have Hb2 := Lib.hid (Hx6.out)
          have Hbs := Lib.hid (Hy6.out)
          go_wp2_with fail
          refine Check_any ((⟨7, 0, (txt r).1⟩ : V)) _ ((by have h1 := (txt_length r).2; have h2 := hlen; simp only [List.length_cons] at h2; show (txt r).1.length ≤ _; omega)) _ fun wc hBc => ?_
          have hoc := ho6.step (hBc.mono (ho6).size)
          have hrc := Hrd.out.below hBc (Nat.le_trans hhi (ho6).size) hltz
          have hbc := Hb2.out.below hBc hltx
          have hb3c := Hbs.out.below hBc hlty
          obtain ⟨svy, hrby, -⟩ := hrc
          have hrc := Hrd.out.below hBc (Nat.le_trans hhi (ho6).size) hltz
          have p2x := hrby.free 1
          have p1x := hrby.cells.c2.2
          simp only [Nat.zero_add] at p1x
          obtain ⟨y0, y1, y2⟩ := hb3c.cells.c3
          simp only [Nat.zero_add] at y1 y2
          have f0 := hbc.free 0
          have f1 := hbc.free 1
          have f2 := hbc.free 2
          obtain ⟨d0, d1, d2⟩ := hbc.cells.c3
          simp only [Nat.zero_add] at d1 d2
          have hlc := hbc.lt
          have hld := hrby.lt
          clear hrby z0 z1 z2 q1x q2x
          cases hm : mayB ((⟨7, 0, (txt r).1⟩ : V))
          · obtain ⟨t1, t2, t3⟩ := tail_facts hoc hrc hbc (Nat.le_refl _) hrw hhi hrb true (.int .i64 ((⟨7, 0, (txt r).1⟩ : V)).kind) (.int .i64 ((⟨7, 0, (txt r).1⟩ : V)).n) (.string ⟨((⟨7, 0, (txt r).1⟩ : V)).s.toArray⟩)
            have hr := (Hbad.out (by rw [Hone.out, Htb.out, chkV, hm]; rfl)) _ ((⟨7, 0, (txt r).1⟩ : V)) _ t1 t2
            have hres := t3.cells.runVar (P := Try.prog) (t := 37) (fun _ => by kernel_rfl) (fun _ => by kernel_rfl)
            clear t1 t2 t3 hm hrc hbc hb3c
            go_wp2_with fail
            exact ret_cell rfl rfl hres rfl hr
          · obtain ⟨t1, t2, t3⟩ := tail_facts hoc hrc hbc (Nat.le_refl _) hrw hhi hrb false (.int .i64 ((⟨7, 0, (txt r).1⟩ : V)).kind) (.int .i64 ((⟨7, 0, (txt r).1⟩ : V)).n) (.string ⟨((⟨7, 0, (txt r).1⟩ : V)).s.toArray⟩)
            have hr := (Hok.out _ _ (by rw [Hone.out, Htb.out, chkV, hm]; rfl)) _ t1 t2
            have hres := t3.cells.runVar (P := Try.prog) (t := 37) (fun _ => by kernel_rfl) (fun _ => by kernel_rfl)
            clear t1 t2 t3 hm hrc hbc hb3c
            go_wp2_with fail
            exact ret_cell rfl rfl hres rfl hr
        · rw [htb] at Hr6
          have Htb := Lib.hid htb
          clear htb
          obtain ⟨svx, hrbx, hsvx⟩ := Hr6.out
          have q1x := hrbx.cells.c2.2
          simp only [Nat.zero_add] at q1x
          have q2x := hrbx.free 1
          obtain ⟨z0, z1, z2⟩ := (Hy6.out).cells.c3
          simp only [Nat.zero_add] at z1 z2
          have hltx := (Hx6.out).lt
          have hlty := (Hy6.out).lt
          have hltz := hrbx.lt
          clear hrbx hsvx
          have f0 := (Hx6.out).free 0
          have f1 := (Hx6.out).free 1
          have f2 := (Hx6.out).free 2
          obtain ⟨d0, d1, d2⟩ := (Hx6.out).cells.c3
          simp only [Nat.zero_add] at d1 d2
          obtain ⟨t1, t2, t3⟩ := tail_facts ho6 (Hr6.out) (Hx6.out) (Nat.le_refl _) hrw hhi hrb true (.int .i64 ((⟨7, 0, (txt r).1⟩ : V)).kind) (.int .i64 ((⟨7, 0, (txt r).1⟩ : V)).n) (.string ⟨((⟨7, 0, (txt r).1⟩ : V)).s.toArray⟩)
          have hr := (Hbad.out (by rw [Hone.out, Htb.out]; rfl)) _ ((⟨7, 0, (txt r).1⟩ : V)) _ t1 t2
          have hres := t3.cells.runVar (P := Try.prog) (t := 37) (fun _ => by kernel_rfl) (fun _ => by kernel_rfl)
          clear t1 t2 t3
          go_wp2_with fail
          exact ret_cell rfl rfl hres rfl hr
    · have hc3 : ¬ (c = 3 ∨ c = 4 ∨ c = 7) := fun e => e3 (by
        have := Hkk.out
        rcases e with e | e | e
        · rw [e] at this; exact .inl (by rw [← this]; rfl)
        · rw [e] at this; exact .inr (.inl (by rw [← this]; rfl))
        · rw [e] at this; exact .inr (.inr (by rw [← this]; rfl)))
      have hone : oneV (c :: r) = if r.length < 8 then none else chkV ⟨kk, numI (r.take 8), []⟩ (r.drop 8) := by
        rw [← Hkk.out]; simp only [oneV]; rw [if_neg hn2, if_neg hc3]
      have Hone := Lib.hid hone
      have n2 : (kk == 2) = false := by simp; omega
      have n3 : (kk == 3) = false := by simp; omega
      have n4 : (kk == 4) = false := by simp; omega
      have n7 : (kk == 7) = false := by simp; omega
      clear hone hc3 hn2 hk0 hk1 e2 e3
      go_wp2_with fail
      refine rnumber_any rb hi r false _ Hr1.out hrb (Nat.le_trans hhi hsz3) _ (fun _ h8 w4 ho4 hr4 => ?_) (fun h8 w4 x ho4 hr4 => ?_)
      · have Hone2 := Lib.hid (Hone.out.trans (if_neg (by omega)))
        clear h8
        have ho5 := ho3.trans ho4
        have hsz5 := ho5.size
        have hx5 := ho4.blk Hx2.out (by omega)
        have hy5 := ho4.blk hx3 (by omega)
        obtain ⟨s0, s1, s2⟩ := hy5.cells.c3
        simp only [Nat.zero_add] at s1 s2
        have s3 := hy5.free 1
        have hB6 : Below w.heap.size w4 (w4.setCell ⟨w1.heap.size, 1, none⟩ (.int .i64 (numI (r.take 8)))) := (Below.refl _ _).setCell (p := ⟨w1.heap.size, 1, none⟩) hsz _
        have ho6 := ho5.step hB6
        have hr6 := hr4.below hB6 hhi hrw
        have hx6 : Blk (w4.setCell ⟨w1.heap.size, 1, none⟩ (.int .i64 (numI (r.take 8)))) w.heap.size [.int .i64 0, .int .i64 0, .string ⟨#[]⟩] 37 := hx5.other (p := ⟨w1.heap.size, 1, none⟩) (by show w.heap.size ≠ w1.heap.size; omega) _
        have hy6 : Blk (w4.setCell ⟨w1.heap.size, 1, none⟩ (.int .i64 (numI (r.take 8)))) w1.heap.size [.int .i64 kk, .int .i64 (numI (r.take 8)), .string ⟨#[]⟩] 37 := hy5.set 1 _
        have Hr6 := Lib.hid hr6
        have Hx6 := Lib.hid hx6
        have Hy6 := Lib.hid hy6
        clear hr4 hx5 hy5 hr6 hx6 hy6 hx3
        obtain ⟨svx, hrbx, hsvx⟩ := Hr6.out
        have q1x := hrbx.cells.c2.2
        simp only [Nat.zero_add] at q1x
        have q2x := hrbx.free 1
        obtain ⟨z0, z1, z2⟩ := (Hy6.out).cells.c3
        simp only [Nat.zero_add] at z1 z2
        have hltx := (Hx6.out).lt
        have hlty := (Hy6.out).lt
        have hltz := hrbx.lt
        clear hrbx hsvx
        have Hrd := Lib.hid (Hr6.out)
        have Hb2 := Lib.hid (Hx6.out)
        have Hbs := Lib.hid (Hy6.out)
        go_wp2_with fail
        refine Check_any ((⟨kk, numI (r.take 8), []⟩ : V)) _ ((Nat.zero_le _)) _ fun wc hBc => ?_
        have hoc := ho6.step (hBc.mono (ho6).size)
        have hrc := Hrd.out.below hBc (Nat.le_trans hhi (ho6).size) hltz
        have hbc := Hb2.out.below hBc hltx
        have hb3c := Hbs.out.below hBc hlty
        obtain ⟨svy, hrby, -⟩ := hrc
        have hrc := Hrd.out.below hBc (Nat.le_trans hhi (ho6).size) hltz
        have p2x := hrby.free 1
        have p1x := hrby.cells.c2.2
        simp only [Nat.zero_add] at p1x
        obtain ⟨y0, y1, y2⟩ := hb3c.cells.c3
        simp only [Nat.zero_add] at y1 y2
        have f0 := hbc.free 0
        have f1 := hbc.free 1
        have f2 := hbc.free 2
        obtain ⟨d0, d1, d2⟩ := hbc.cells.c3
        simp only [Nat.zero_add] at d1 d2
        have hlc := hbc.lt
        have hld := hrby.lt
        clear hrby z0 z1 z2 q1x q2x
        cases hm : mayB ((⟨kk, numI (r.take 8), []⟩ : V))
        · obtain ⟨t1, t2, t3⟩ := tail_facts hoc hrc hbc (Nat.le_refl _) hrw hhi hrb true (.int .i64 ((⟨kk, numI (r.take 8), []⟩ : V)).kind) (.int .i64 ((⟨kk, numI (r.take 8), []⟩ : V)).n) (.string ⟨((⟨kk, numI (r.take 8), []⟩ : V)).s.toArray⟩)
          have hr := (Hbad.out (by rw [Hone2.out, chkV, hm]; rfl)) _ ((⟨kk, numI (r.take 8), []⟩ : V)) _ t1 t2
          have hres := t3.cells.runVar (P := Try.prog) (t := 37) (fun _ => by kernel_rfl) (fun _ => by kernel_rfl)
          clear t1 t2 t3 hm hrc hbc hb3c
          go_wp2_with fail
          exact ret_cell rfl rfl hres rfl hr
        · obtain ⟨t1, t2, t3⟩ := tail_facts hoc hrc hbc (Nat.le_refl _) hrw hhi hrb false (.int .i64 ((⟨kk, numI (r.take 8), []⟩ : V)).kind) (.int .i64 ((⟨kk, numI (r.take 8), []⟩ : V)).n) (.string ⟨((⟨kk, numI (r.take 8), []⟩ : V)).s.toArray⟩)
          have hr := (Hok.out _ _ (by rw [Hone2.out, chkV, hm]; rfl)) _ t1 t2
          have hres := t3.cells.runVar (P := Try.prog) (t := 37) (fun _ => by kernel_rfl) (fun _ => by kernel_rfl)
          clear t1 t2 t3 hm hrc hbc hb3c
          go_wp2_with fail
          exact ret_cell rfl rfl hres rfl hr
      · have Hone2 := Lib.hid (Hone.out.trans (if_pos (by rcases h8 with h | h; cases h; exact h)))
        clear h8
        have ho5 := ho3.trans ho4
        have hsz5 := ho5.size
        have hx5 := ho4.blk Hx2.out (by omega)
        have hy5 := ho4.blk hx3 (by omega)
        obtain ⟨s0, s1, s2⟩ := hy5.cells.c3
        simp only [Nat.zero_add] at s1 s2
        have s3 := hy5.free 1
        have hB6 : Below w.heap.size w4 (w4.setCell ⟨w1.heap.size, 1, none⟩ (.int .i64 x)) := (Below.refl _ _).setCell (p := ⟨w1.heap.size, 1, none⟩) hsz _
        have ho6 := ho5.step hB6
        have hr6 := hr4.below hB6 hhi hrw
        have hx6 : Blk (w4.setCell ⟨w1.heap.size, 1, none⟩ (.int .i64 x)) w.heap.size [.int .i64 0, .int .i64 0, .string ⟨#[]⟩] 37 := hx5.other (p := ⟨w1.heap.size, 1, none⟩) (by show w.heap.size ≠ w1.heap.size; omega) _
        have hy6 : Blk (w4.setCell ⟨w1.heap.size, 1, none⟩ (.int .i64 x)) w1.heap.size [.int .i64 kk, .int .i64 x, .string ⟨#[]⟩] 37 := hy5.set 1 _
        have Hr6 := Lib.hid hr6
        have Hx6 := Lib.hid hx6
        have Hy6 := Lib.hid hy6
        clear hr4 hx5 hy5 hr6 hx6 hy6 hx3
        obtain ⟨svx, hrbx, hsvx⟩ := Hr6.out
        have q1x := hrbx.cells.c2.2
        simp only [Nat.zero_add] at q1x
        have q2x := hrbx.free 1
        obtain ⟨z0, z1, z2⟩ := (Hy6.out).cells.c3
        simp only [Nat.zero_add] at z1 z2
        have hltx := (Hx6.out).lt
        have hlty := (Hy6.out).lt
        have hltz := hrbx.lt
        clear hrbx hsvx
        have f0 := (Hx6.out).free 0
        have f1 := (Hx6.out).free 1
        have f2 := (Hx6.out).free 2
        obtain ⟨d0, d1, d2⟩ := (Hx6.out).cells.c3
        simp only [Nat.zero_add] at d1 d2
        obtain ⟨t1, t2, t3⟩ := tail_facts ho6 (Hr6.out) (Hx6.out) (Nat.le_refl _) hrw hhi hrb true (.int .i64 ((⟨kk, x, []⟩ : V)).kind) (.int .i64 ((⟨kk, x, []⟩ : V)).n) (.string ⟨((⟨kk, x, []⟩ : V)).s.toArray⟩)
        have hr := (Hbad.out Hone2.out) _ ((⟨kk, x, []⟩ : V)) _ t1 t2
        have hres := t3.cells.runVar (P := Try.prog) (t := 37) (fun _ => by kernel_rfl) (fun _ => by kernel_rfl)
        clear t1 t2 t3
        go_wp2_with fail
        exact ret_cell rfl rfl hres rfl hr
  · cases rest with
    | cons c r => simp at h1
    | nil =>
    rw [show List.replicate 1 (0 : UInt8) = [0] from rfl] at hb1
    obtain ⟨b, off, cap, rfl, k1, k2, g0⟩ := Bytes.one hb1
    have g0' : w1.cell? ⟨b, off, none⟩ = some (.int .u8 0) := g0
    clear g0
    have hx1 := ho1.blk Hx.out (by omega)
    have ho2 := ho0.trans ho1
    have hsz := ho2.size
    have hlt2 := hx1.lt
    have hbz : w.heap.size ≠ w1.heap.size := by omega
    have hbz2 : rb ≠ w1.heap.size := by omega
    have hB1 : Below w1.heap.size w1 (w1.alloc (.cells #[.int .i64 0, .int .i64 0, .string ⟨#[]⟩] 37)) := (Below.refl _ _).alloc (Nat.le_refl _) _
    have hx3 : Blk (w1.alloc (.cells #[.int .i64 0, .int .i64 0, .string ⟨#[]⟩] 37)) w1.heap.size [.int .i64 0, .int .i64 0, .string ⟨#[]⟩] 37 := Blk.new _ _ _ rfl
    have Hr1 := Lib.hid (hr1.below hB1 (Nat.le_trans hhi hsz) (Nat.lt_of_lt_of_le hrw hsz))
    have Hx2 := Lib.hid (hx1.below hB1 hlt2)
    have ho3 := ho2.step (hB1.mono hsz)
    have hsz3 := ho3.size
    clear hr1 hx1 hb1
    go_wp2_with fail
    refine rnumber_any rb hi [] true _ Hr1.out hrb (Nat.le_trans hhi hsz3) _ (fun h => by cases h) (fun h8 w4 x ho4 hr4 => ?_)
    · clear h8
      have ho5 := ho3.trans ho4
      have hsz5 := ho5.size
      have hx5 := ho4.blk Hx2.out (by omega)
      have hy5 := ho4.blk hx3 (by omega)
      obtain ⟨s0, s1, s2⟩ := hy5.cells.c3
      simp only [Nat.zero_add] at s1 s2
      have s3 := hy5.free 1
      have hB6 : Below w.heap.size w4 (w4.setCell ⟨w1.heap.size, 1, none⟩ (.int .i64 x)) := (Below.refl _ _).setCell (p := ⟨w1.heap.size, 1, none⟩) hsz _
      have ho6 := ho5.step hB6
      have hr6 := hr4.below hB6 hhi hrw
      have hx6 : Blk (w4.setCell ⟨w1.heap.size, 1, none⟩ (.int .i64 x)) w.heap.size [.int .i64 0, .int .i64 0, .string ⟨#[]⟩] 37 := hx5.other (p := ⟨w1.heap.size, 1, none⟩) (by show w.heap.size ≠ w1.heap.size; omega) _
      have hy6 : Blk (w4.setCell ⟨w1.heap.size, 1, none⟩ (.int .i64 x)) w1.heap.size [.int .i64 0, .int .i64 x, .string ⟨#[]⟩] 37 := hy5.set 1 _
      have Hr6 := Lib.hid hr6
      have Hx6 := Lib.hid hx6
      have Hy6 := Lib.hid hy6
      clear hr4 hx5 hy5 hr6 hx6 hy6 hx3
      obtain ⟨svx, hrbx, hsvx⟩ := Hr6.out
      have q1x := hrbx.cells.c2.2
      simp only [Nat.zero_add] at q1x
      have q2x := hrbx.free 1
      obtain ⟨z0, z1, z2⟩ := (Hy6.out).cells.c3
      simp only [Nat.zero_add] at z1 z2
      have hltx := (Hx6.out).lt
      have hlty := (Hy6.out).lt
      have hltz := hrbx.lt
      clear hrbx hsvx
      have f0 := (Hx6.out).free 0
      have f1 := (Hx6.out).free 1
      have f2 := (Hx6.out).free 2
      obtain ⟨d0, d1, d2⟩ := (Hx6.out).cells.c3
      simp only [Nat.zero_add] at d1 d2
      obtain ⟨t1, t2, t3⟩ := tail_facts ho6 (Hr6.out) (Hx6.out) (Nat.le_refl _) hrw hhi hrb true (.int .i64 ((⟨0, x, []⟩ : V)).kind) (.int .i64 ((⟨0, x, []⟩ : V)).n) (.string ⟨((⟨0, x, []⟩ : V)).s.toArray⟩)
      have hr := (Hbad.out rfl) _ ((⟨0, x, []⟩ : V)) _ t1 t2
      have hres := t3.cells.runVar (P := Try.prog) (t := 37) (fun _ => by kernel_rfl) (fun _ => by kernel_rfl)
      clear t1 t2 t3
      go_wp2_with fail
      exact ret_cell rfl rfl hres rfl hr
end Go.Proofs.Ytomclldnoockcaa
