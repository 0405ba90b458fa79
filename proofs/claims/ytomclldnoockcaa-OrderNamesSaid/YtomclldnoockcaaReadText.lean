/- The reader's text. -/
import Derived.Test.YtomclldnoockcaaReader
import Derived.Deep.LoopGhost
import Derived.WalkMore
namespace Go.Proofs.Ytomclldnoockcaa
open Go.RowKit

theorem Bytes.one {lo hi : Nat} {w : World} {v : Value} {c : UInt8} (h : Bytes lo hi w v [c]) : ∃ b off cap, v = .slice (some ⟨b, off, none⟩) 1 cap ∧ 1 ≤ cap ∧ cap ≤ 9223372036854775807 ∧ w.cell? ⟨b, off, none⟩ = some (.int .u8 c.toNat) := by
  obtain ⟨ao, cap, rfl, h1, h2, -, hc⟩ := h.form
  obtain ⟨b, off, rfl, -, -, hcc⟩ := hc 0 (by simp)
  obtain ⟨cs, -, hcs, e⟩ := hcc 0 (by simp)
  subst e
  have := hcs.c1
  rw [Nat.zero_mul, Nat.add_zero] at this
  exact ⟨b, off, cap, rfl, h1, h2, this⟩
theorem Only.step {A : Nat → Prop} {a b c : World} (h : Only A a b) (hB : Below a.heap.size b c) : Only A a c :=
  ⟨hB.os.trans h.os, hB.tape.trans h.tape, hB.output.trans h.output, Nat.le_trans h.size hB.size, fun k hk hA => (hB.block k hk).trans (h.block k hk hA)⟩
theorem RdAt.below {B rb hi : Nat} {w w' : World} {rest : List UInt8} {bad : Bool} (h : RdAt rb hi w rest bad) (hB : Below B w w') (hh : hi ≤ B) (hr : rb < B) : RdAt rb hi w' rest bad := by
  obtain ⟨sv, hb, hs⟩ := h
  exact ⟨sv, hb.below hB hr, hs.below (flat_loc _) hB hh⟩
theorem OwnB.only {A : Nat → Prop} {lo : Nat} {w w' : World} {v : Value} {xs : List UInt8} (h : OwnB lo w v xs) (ho : Only A w w') (hA : ∀ k, A k → k < lo) : OwnB lo w' v xs :=
  ⟨h.1, h.2.imp id fun ⟨g, cap, cur, e, hg, hh, hr⟩ => ⟨g, cap, cur, e, hg, (ho.block g (Array.getElem?_eq_some_iff.1 hh).1 (fun ha => by have := hA g ha; omega)).trans hh, hr⟩⟩

set_option maxRecDepth 100000 in
set_option maxHeartbeats 8000000 in
theorem rtext_any (rb hi : Nat) (rest : List UInt8) (w : World) (h : RdAt rb hi w rest false) (hrb : hi ≤ rb) (hhi : hi ≤ w.heap.size) (hlen : rest.length ≤ 100000000) (R : Ending → World → Prop)
    (hR : ∀ w', Only (· = rb) w w' → RdAt rb hi w' (txt rest).2.1 (txt rest).2.2 → R (.returned (.string ⟨(txt rest).1.toArray⟩)) w') :
    Calls Try.prog 52 #[.pointer (some ⟨rb, 0, none⟩)] w R := by
  have hrw : rb < w.heap.size := by obtain ⟨sv, hb, -⟩ := h; exact hb.lt
  have HR := Lib.hid hR
  have Hlen := Lib.hid hlen
  have H0 := Lib.hid h
  clear hR h hlen
  go_enter Try.func52, Try.ntmps52
  go_wp2_with fail
  go_step3
  go_wp2_with fail
  go_step3
  go_wp2_with fail
  go_loopg [3] (rest.length + 2) (fun n t3 wr => ∃ (r : List UInt8) (bad : Bool) (out : List UInt8), n = (if bad then 1 else r.length + 2) ∧ Only (· = rb) w wr ∧ RdAt rb hi wr r bad ∧ OwnB w.heap.size wr t3 out ∧ out.length + r.length ≤ rest.length ∧
    txt rest = (if bad then (out, r, true) else (out ++ (txt r).1, (txt r).2.1, (txt r).2.2)))
  case atStart => exact ⟨rest, false, [], rfl, Only.refl _ _, H0.out, Own.nil _ _ _ _ _, by simp, by simp⟩
  case round =>
    obtain ⟨r, bad, out, hn, ho, hrd, hown, hlr, ht⟩ := hrel
    have hsz := ho.size
    cases bad with
    | true =>
      simp only [if_true] at ht
      have hr := HR.out wr ho (by rw [ht]; exact hrd)
      rw [ht] at hr
      have hcv := str (OwnB.bytes hown)
      obtain ⟨sv, hb, -⟩ := hrd
      obtain ⟨-, c1⟩ := hb.cells.c2
      simp only [Nat.zero_add] at c1
      clear hb hown ho ht
      go_wp2_with fail
      first | exact hr | exact fin hr rfl
    | false =>
      simp only [Bool.false_eq_true, if_false] at ht hn
      have Ht := Lib.hid ht
      have Hlr := Lib.hid hlr
      have c1 : wr.cell? ⟨rb, 1, none⟩ = some (.bool false) := by
        obtain ⟨sv, hb, -⟩ := hrd
        have := hb.cells.c2.2
        simpa using this
      have hrb2 : ∀ k, k = rb → k < w.heap.size := fun k e => by omega
      have hh2 : ∀ W, Only (· = rb) wr W → hi ≤ W.heap.size := fun W h => Nat.le_trans (Nat.le_trans hhi hsz) h.size
      clear ht hlr
      go_wp2_with fail
      refine take_any rb hi 1 (by omega) (by omega) r false wr hrd hrb (Nat.le_trans hhi hsz) _ (fun _ h2 w1 v ho1 hr1 hb1 => ?_) (fun h1 w1 v ho1 hr1 hb1 => ?_)
      · cases r with
        | nil => simp at h2
        | cons c r' =>
        rw [show (c :: r').take 1 = [c] from rfl] at hb1
        rw [show (c :: r').drop 1 = r' from rfl] at hr1
        obtain ⟨b, off, cap, rfl, k1, k2, g0⟩ := Bytes.one hb1
        have Hown := Lib.hid (hown.only ho1 hrb2)
        have ho2 := ho.trans ho1
        have hsz2 := ho2.size
        clear hown hb1 c1 hrd h2
        by_cases hc : c = 0
        · subst hc
          have g0' : w1.cell? ⟨b, off, none⟩ = some (.int .u8 0) := g0
          clear g0
          go_wp2_with fail
          refine take_any rb hi 1 (by omega) (by omega) r' false w1 hr1 hrb (hh2 _ ho1) _ (fun _ h2 w2 v ho3 hr2 hb2 => ?_) (fun h1 w2 v ho3 hr2 hb2 => ?_)
          · cases r' with
            | nil => simp at h2
            | cons d r2 =>
            rw [show (d :: r2).take 1 = [d] from rfl] at hb2
            rw [show (d :: r2).drop 1 = r2 from rfl] at hr2
            obtain ⟨b2, off2, cap2, rfl, m1, m2, g2⟩ := Bytes.one hb2
            have Hown2 := Lib.hid (Hown.out.only ho3 hrb2)
            have ho4 := ho2.trans ho3
            have hsz4 := ho4.size
            clear Hown hb2 g0' hr1 h2
            by_cases hd1 : d = 1
            · subst hd1
              have g2' : w2.cell? ⟨b2, off2, none⟩ = some (.int .u8 1) := g2
              have e := Ht.out
              rw [txt_z1, List.append_nil] at e
              have hr := HR.out w2 ho4 (by rw [e]; exact hr2)
              rw [e] at hr
              have hcv := str (OwnB.bytes Hown2.out)
              clear g2 hr2 e
              go_wp2_with fail
              first | exact hr | exact fin hr rfl
            by_cases hdf : d = 255
            · subst hdf
              have g2' : w2.cell? ⟨b2, off2, none⟩ = some (.int .u8 255) := g2
              have e := Ht.out
              rw [txt_zf] at e
              have He := Lib.hid e
              clear g2 e hd1
              have hol : out.length + 1 ≤ 140737488355328 := by have h1 := Hlr.out; have h2 := Hlen.out; omega
              go_wp2_with (at_builtin; refine AtApp.of ?_)
              obtain ⟨v4, w4, hr, ho5, ha5⟩ := app1 Hown2.out 0 hol hsz4
              refine AtApp.go hr rfl rfl rfl rfl ?_
              have hBa := Own.below Hown2.out ha5 hsz4
              have Ho5 := Lib.hid ho5
              have hr5 := hr2.below hBa hhi hrw
              have ho6 := ho4.step hBa
              clear hr ho5 ha5 g2'
              go_wp2_with fail
              go_roundg (r2.length + 2)
              case measure => rw [hn]; simp only [List.length_cons]; omega
              case rel => exact ⟨r2, false, out ++ [0], by simp, ho6, hr5, Ho5.out, by have := Hlr.out; simp only [List.length_cons, List.length_append, List.length_nil] at *; omega, by rw [He.out]; simp⟩
            · have h1' : ((d.toNat : Int) == 1) = false := by
                have : d.toNat ≠ 1 := fun e => hd1 (by rw [← UInt8.toNat_inj]; exact e)
                simp; omega
              have hf' : ((d.toNat : Int) == 255) = false := by
                have : d.toNat ≠ 255 := fun e => hdf (by rw [← UInt8.toNat_inj]; exact e)
                simp; omega
              have e := Ht.out
              rw [txt_zd d r2 hd1 hdf] at e
              have He := Lib.hid e
              obtain ⟨sv, hbk, hsv⟩ := hr2
              have q1 := hbk.cells.c2.2
              simp only [Nat.zero_add] at q1
              have q2 := hbk.free 1
              have Hb := Lib.hid hbk
              have Hsv := Lib.hid hsv
              have ho5 : Only (· = rb) w2 (w2.setCell ⟨rb, 1, none⟩ (.bool true)) := Only.setCell (A := (· = rb)) w2 (p := ⟨rb, 1, none⟩) rfl _
              clear hd1 hdf e hbk hsv
              go_wp2_with fail
              go_roundg 1
              case measure => rw [hn]; simp only [List.length_cons]; omega
              case rel => exact ⟨r2, true, out, by simp, ho4.trans ho5, ⟨sv, Hb.out.set 1 _, Hsv.out.agree (flat_loc _) (ho5.agree (Nat.le_trans hhi hsz4) (fun k hk => .inr (by omega)))⟩, Hown2.out.only ho5 hrb2, by have := Hlr.out; simp only [List.length_cons] at *; omega, by rw [He.out]; simp⟩
          · cases r' with
            | cons d r2 => simp at h1
            | nil =>
            rw [show List.replicate 1 (0 : UInt8) = [0] from rfl] at hb2
            obtain ⟨b2, off2, cap2, rfl, m1, m2, g2⟩ := Bytes.one hb2
            have g2' : w2.cell? ⟨b2, off2, none⟩ = some (.int .u8 0) := g2
            have Hown2 := Lib.hid (Hown.out.only ho3 hrb2)
            have ho4 := ho2.trans ho3
            have hsz4 := ho4.size
            have e := Ht.out
            rw [txt_z] at e
            have He := Lib.hid e
            obtain ⟨sv, hbk, hsv⟩ := hr2
            have q1 := hbk.cells.c2.2
            simp only [Nat.zero_add] at q1
            have q2 := hbk.free 1
            have Hb := Lib.hid hbk
            have Hsv := Lib.hid hsv
            have ho5 : Only (· = rb) w2 (w2.setCell ⟨rb, 1, none⟩ (.bool true)) := Only.setCell (A := (· = rb)) w2 (p := ⟨rb, 1, none⟩) rfl _
            clear e hbk hsv g2 g0' hr1 Hown hb2
            go_wp2_with fail
            go_roundg 1
            case measure => rw [hn]; simp only [List.length_cons]; omega
            case rel => exact ⟨[], true, out, by simp, ho4.trans ho5, ⟨sv, Hb.out.set 1 _, Hsv.out.agree (flat_loc _) (ho5.agree (Nat.le_trans hhi hsz4) (fun k hk => .inr (by omega)))⟩, Hown2.out.only ho5 hrb2, by have := Hlr.out; simp only [List.length_cons, List.length_nil] at *; omega, by rw [He.out]; simp⟩
        · have hz : ((c.toNat : Int) == 0) = false := by
            have : c.toNat ≠ 0 := fun e => hc (by rw [← UInt8.toNat_inj]; exact e)
            simp; omega
          have e := Ht.out
          rw [txt_ne c r' hc] at e
          have He := Lib.hid e
          clear hc e
          have hol : out.length + 1 ≤ 140737488355328 := by have h1 := Hlr.out; have h2 := Hlen.out; omega
          go_wp2_with (at_builtin; refine AtApp.of ?_)
          obtain ⟨v4, w4, hr, ho5, ha5⟩ := app1 Hown.out c hol hsz2
          refine AtApp.go hr rfl rfl rfl rfl ?_
          have hBa := Own.below Hown.out ha5 hsz2
          have Ho5 := Lib.hid ho5
          have hr5 := hr1.below hBa hhi hrw
          have ho6 := ho2.step hBa
          clear hr ho5 ha5 g0
          go_wp2_with fail
          go_roundg (r'.length + 2)
          case measure => rw [hn]; simp only [List.length_cons]; omega
          case rel => exact ⟨r', false, out ++ [c], by simp, ho6, hr5, Ho5.out, by have := Hlr.out; simp only [List.length_cons, List.length_append, List.length_nil] at *; omega, by rw [He.out]; simp⟩
      · cases r with
        | cons d r2 => simp at h1
        | nil =>
        rw [show List.replicate 1 (0 : UInt8) = [0] from rfl] at hb1
        obtain ⟨b, off, cap, rfl, k1, k2, g0⟩ := Bytes.one hb1
        have g0' : w1.cell? ⟨b, off, none⟩ = some (.int .u8 0) := g0
        have Hown := Lib.hid (hown.only ho1 hrb2)
        have ho2 := ho.trans ho1
        have hsz2 := ho2.size
        clear hown hb1 c1 hrd g0
        go_wp2_with fail
        refine take_any rb hi 1 (by omega) (by omega) [] true w1 hr1 hrb (hh2 _ ho1) _ (fun h _ => by cases h) (fun h1 w2 v ho3 hr2 hb2 => ?_)
        rw [show List.replicate 1 (0 : UInt8) = [0] from rfl] at hb2
        obtain ⟨b2, off2, cap2, rfl, m1, m2, g2⟩ := Bytes.one hb2
        have g2' : w2.cell? ⟨b2, off2, none⟩ = some (.int .u8 0) := g2
        have Hown2 := Lib.hid (Hown.out.only ho3 hrb2)
        have ho4 := ho2.trans ho3
        have hsz4 := ho4.size
        have e := Ht.out
        rw [show txt [] = ([], [], true) from rfl] at e
        have He := Lib.hid e
        obtain ⟨sv, hbk, hsv⟩ := hr2
        have q1 := hbk.cells.c2.2
        simp only [Nat.zero_add] at q1
        have q2 := hbk.free 1
        have Hb := Lib.hid hbk
        have Hsv := Lib.hid hsv
        have ho5 : Only (· = rb) w2 (w2.setCell ⟨rb, 1, none⟩ (.bool true)) := Only.setCell (A := (· = rb)) w2 (p := ⟨rb, 1, none⟩) rfl _
        clear e hbk hsv g2 g0' hr1 Hown hb2
        go_wp2_with fail
        go_roundg 1
        case measure => rw [hn]; simp only [List.length_nil]; omega
        case rel => exact ⟨[], true, out, by simp, ho4.trans ho5, ⟨sv, Hb.out.set 1 _, Hsv.out.agree (flat_loc _) (ho5.agree (Nat.le_trans hhi hsz4) (fun k hk => .inr (by omega)))⟩, Hown2.out.only ho5 hrb2, by have := Hlr.out; simp only [List.length_nil] at *; omega, by rw [He.out]; simp⟩
end Go.Proofs.Ytomclldnoockcaa
