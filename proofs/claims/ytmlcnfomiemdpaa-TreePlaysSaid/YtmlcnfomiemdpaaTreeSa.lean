/- Trees: same, which writes over what it is given; one. -/
import Derived.Test.YtmlcnfomiemdpaaTreeRc
namespace Go.Proofs.Ytmlcnfomiemdpaa
open Go.RowKit
attribute [local go_sem ↓] Go.wp_at_zero Go.wp_at_succ
set_option linter.unusedVariables false
set_option linter.unusedSimpArgs false

/-- A byte of a row of the call's own is written over. -/
theorem OwnB.set {lo g n c k : Nat} {w : World} {l : List UInt8} (h : OwnB lo w (.slice (some ⟨g, 0, none⟩) n c) l) (hk : k < l.length) (x : UInt8) : OwnB lo (w.setCell ⟨g, k, none⟩ (.int .u8 x.toNat)) (.slice (some ⟨g, 0, none⟩) n c) (l.set k x) := by
  obtain ⟨h1, h2⟩ := h
  rcases h2 with ⟨e, hn⟩ | ⟨g', cap, cur, e, hb, hg, hnc, hcm, hcs, htake⟩
  · cases e
  · injection e with e1 e2 e3
    injection e1 with e1
    injection e1 with e1
    subst e1 e2 e3
    have hB : Blk w g cur.toList 5 := by unfold Blk; simpa using hg
    have hB2 := hB.set k (.int .u8 x.toNat)
    refine ⟨by simp [flatMap_bE], .inr ⟨g, c, (cur.toList.set k (.int .u8 x.toNat)).toArray, by simp, hb, hB2, by simpa using hnc, hcm, by simpa using hcs, ?_⟩⟩
    rw [List.length_set, List.toList_toArray, List.take_set, htake, flatMap_bE, flatMap_bE, List.map_set]
theorem blks_apart {ps : List (Value × Value)} (h : (blks ps).Nodup) : (∀ i (hi : i < ps.length) q, ps[i].1.ownBlock = some q → ps[i].2.ownBlock ≠ some q) ∧
    ∀ i j (hi : i < ps.length) (hj : j < ps.length), i < j → ∀ q, (ps[i].1.ownBlock = some q ∨ ps[i].2.ownBlock = some q) → ps[j].1.ownBlock ≠ some q ∧ ps[j].2.ownBlock ≠ some q := by
  have h' := List.pairwise_flatMap.1 h
  refine ⟨fun i hi q e1 e2 => ?_, fun i j hi hj hij q e => ?_⟩
  · have := h'.1 ps[i] (List.getElem_mem hi)
    rw [e1, e2] at this
    simp at this
  · have := List.pairwise_iff_getElem.1 h'.2 i j hi hj hij
    have hm : q ∈ ps[i].1.ownBlock.toList ++ ps[i].2.ownBlock.toList := by
      rcases e with e | e <;> simp [e]
    constructor
    · intro e2; exact this q hm q (by simp [e2]) rfl
    · intro e2; exact this q hm q (by simp [e2]) rfl
theorem flatMap_pE : ∀ (l : List (Value × Value)) (i : Nat) (hl : i < l.length), (l.flatMap pE)[i * 2]? = some l[i].1 ∧ (l.flatMap pE)[i * 2 + 1]? = some l[i].2
  | [], _, hl => absurd hl (Nat.not_lt_zero _)
  | x :: r, 0, _ => by simp [pE]
  | x :: r, j + 1, hl => by
    have := flatMap_pE r j (by simp at hl; omega)
    simp only [List.flatMap_cons, pE, List.getElem_cons_succ]
    rw [show (j + 1) * 2 = j * 2 + 1 + 1 by omega, show j * 2 + 1 + 1 + 1 = (j * 2 + 1) + 1 + 1 by omega]
    simpa using this
theorem Pairs.at2 {lo : Nat} {w : World} {p : Option Addr} {n c : Nat} {ps : List (Value × Value)} {d : PL} (h : Pairs lo w (.slice p n c) ps d) (i : Nat) (hi : i < d.length) (hip : i < ps.length) : ∃ g a1 c1 a2 c2, p = some ⟨g, 0, none⟩ ∧ g < w.heap.size ∧
    w.cell? ⟨g, i * 2, none⟩ = some (.slice a1 d[i].1.length c1) ∧ w.cell? ⟨g, i * 2 + 1, none⟩ = some (.slice a2 d[i].2.length c2) ∧ ps[i] = (.slice a1 d[i].1.length c1, .slice a2 d[i].2.length c2) := by
  obtain ⟨g, cap, e, h1, h2, h3, h4, h5, -⟩ := h.own.form (fun e => by rw [e] at hip; exact absurd hip (Nat.not_lt_zero _))
  injection e with e1 e2 e3
  subst e1 e2 e3
  have hkv := h.kv i hip hi
  obtain ⟨a1, c1, q1⟩ := Own.slice hkv.1
  obtain ⟨a2, c2, q2⟩ := Own.slice hkv.2
  have z0 := h5 (i * 2) ps[i].1 (flatMap_pE ps i hip).1
  have z1 := h5 (i * 2 + 1) ps[i].2 (flatMap_pE ps i hip).2
  rw [Nat.zero_add, q1] at z0
  rw [Nat.zero_add, q2] at z1
  exact ⟨g, a1, c1, a2, c2, rfl, h2, z0, z1, Prod.ext q1 q2⟩
/-- What is left to be compared. -/
def Left (lo : Nat) (ps : List (Value × Value)) (d : PL) (i : Nat) (w : World) : Prop := ∀ j (h : j < ps.length) (h2 : j < d.length), i ≤ j → OwnB lo w ps[j].1 d[j].1 ∧ OwnB lo w ps[j].2 d[j].2
theorem Left.next {lo i : Nat} {w w' : World} {ps : List (Value × Value)} {d : PL} (h : Left lo ps d i w) (ha : (blks ps).Nodup) (hi : i < ps.length) (hO : Only (fun q => ps[i].1.ownBlock = some q ∨ ps[i].2.ownBlock = some q) w w') : Left lo ps d (i + 1) w' := by
  intro j hj h2 hij
  obtain ⟨k1, k2⟩ := h j hj h2 (by omega)
  have hx := (blks_apart ha).2 i j hi hj (by omega)
  exact ⟨k1.same (fun q e => hO.block q (k1.lt q e).2 (fun e2 => (hx q e2).1 e)), k2.same (fun q e => hO.block q (k2.lt q e).2 (fun e2 => (hx q e2).2 e))⟩
/-- Bytes of the call's own, whichever they are. -/
def Some8 (lo n : Nat) (v : Value) (w : World) : Prop := ∃ l : List UInt8, l.length = n ∧ OwnB lo w v l
theorem Some8.at {lo n m c : Nat} {p : Option Addr} {w : World} (h : Some8 lo n (.slice p m c) w) (k : Nat) (hk : k < n) : ∃ g x, p = some ⟨g, 0, none⟩ ∧ m = n ∧ w.cell? ⟨g, k, none⟩ = some (.int .u8 (UInt8.toNat x)) ∧ w.frozen? ⟨g, k, none⟩ = false ∧
    Some8 lo n (.slice (some ⟨g, 0, none⟩) m c) (w.setCell ⟨g, k, none⟩ (.int .u8 ((UInt8.toNat (x + 1) : Nat) : Int))) := by
  obtain ⟨l, hl, h⟩ := h
  obtain ⟨g, cap, e, h1, h2, h3, h4, h5, h6⟩ := h.form (fun e => by rw [e] at hl; simp at hl; omega)
  injection e with e1 e2 e3
  subst e1 e2 e3
  have hkl : k < l.length := by omega
  have hc := h5 k (.int .u8 l[k].toNat) (by rw [flatMap_bE]; simp [hkl])
  refine ⟨g, l[k], rfl, hl, by simpa using hc, h6 k, l.set k (l[k] + 1), by rw [List.length_set]; exact hl, h.set hkl _⟩
theorem add8 (x : UInt8) : IntKind.u8.wrap ((x.toNat : Int) + 1) = ((UInt8.toNat (x + 1) : Nat) : Int) := by
  have := wrap_u8add x 1
  simpa using this

set_option maxRecDepth 100000 in
set_option maxHeartbeats 8000000 in
theorem same_any (lo rlo rhi : Nat) (ps : List (Value × Value)) (d : PL) (v rv : Value) (w : World) (hP : Pairs lo w v ps d) (hr : ∀ w', Only (· ∈ blks ps) w w' → Rs rlo rhi w' rv d) (hd : d.length ≤ 1000000)
    (R : Ending → World → Prop) (hR : ∀ w', Only (· ∈ blks ps) w w' → R (.returned (.bool true)) w') : Calls Try.prog 26 #[v, rv] w R := by
  have HR := Lib.hid hR
  have HP := Lib.hid hP
  have Hr := Lib.hid hr
  obtain ⟨p, c, rfl⟩ := hP.form
  obtain ⟨ao, cap, rfl, -, -, -, -⟩ := Sl.form (hr w (Only.refl _ _))
  have Hap := Lib.hid (blks_apart hP.apart)
  have Hlen := Lib.hid hP.len
  clear hR hP hr
  go_enter Try.func26, Try.ntmps26
  go_wp2_with fail
  go_loopw [15] (fun t15 wr => ∃ i : Nat, i ≤ d.length ∧ t15 = .int .i64 (i : Int) ∧ Only (· ∈ blks ps) w wr ∧ Left lo ps d i wr) (fun t15 _ => d.length - (intOf t15).toNat)
  case atStart => exact ⟨0, Nat.zero_le _, rfl, Only.refl _ _, fun j h h2 _ => HP.out.kv j h h2⟩
  case round =>
    obtain ⟨i, hi1, rfl, hO, hL⟩ := hrel
    have HO := Lib.hid hO
    have HL := Lib.hid hL
    clear hO hL
    by_cases hil : i < d.length
    · have hip : i < ps.length := by rw [Hlen.out]; exact hil
      obtain ⟨g, a1, c1, a2, c2, rfl, hg8, g0, g1, hkv⟩ := HP.out.at2 i hil hip
      have hgn : g ∉ blks ps := HP.out.hd g rfl
      obtain ⟨x1, x2⟩ := HL.out i hip hil (Nat.le_refl _)
      obtain ⟨rb, roff, rfl, r1, r2, y0, y1⟩ := Rs.at (Hr.out wr HO.out) i hil
      have q0 := (World.cell?_of_block (HO.out.block g hg8 hgn)).trans g0
      have q1 := (World.cell?_of_block (HO.out.block g hg8 hgn)).trans g1
      have X1 := Lib.hid x1
      have X2 := Lib.hid x2
      have Hkv := Lib.hid hkv
      rw [hkv] at x1 x2
      have hs1 := fun n => str (Sl.below (OwnB.bytes x1) (flat_loc _) (drewN (Below.refl wr.heap.size wr) n) (Nat.le_refl _))
      have hs2 := fun n => str (Sl.below (OwnB.bytes x2) (flat_loc _) (drewN (Below.refl wr.heap.size wr) n) (Nat.le_refl _))
      have i0 : (0 : Int) ≤ (i : Int) := by omega
      have il : (i : Int) < (d.length : Int) := by omega
      clear g0 g1 x1 x2 hkv
      go_wp2_with fail
      go_quiet (fail)
      have hOd : Only (· ∈ blks ps) w (wr.drewN nq) := HO.out.trans (Below.only (drewN (Below.refl wr.heap.size wr) nq))
      have x1d : OwnB lo (wr.drewN nq) ps[i].1 d[i].1 := X1.out.same (fun _ _ => rfl)
      have x2d : OwnB lo (wr.drewN nq) ps[i].2 d[i].2 := X2.out.same (fun _ _ => rfl)
      have hLd : Left lo ps d i (wr.drewN nq) := fun j h h2 hij => ⟨(HL.out j h h2 hij).1.same (fun _ _ => rfl), (HL.out j h h2 hij).2.same (fun _ _ => rfl)⟩
      have q0d : (wr.drewN nq).cell? ⟨g, i * 2, none⟩ = some (.slice a1 d[i].1.length c1) := q0
      have q1d : (wr.drewN nq).cell? ⟨g, i * 2 + 1, none⟩ = some (.slice a2 d[i].2.length c2) := q1
      clear HO HL X1 X2 q0 q1 hs1 hs2 y0 y1
      generalize wr.drewN nq = wo at *
      clear wr
      have hl1 := (OwnB.bytes x1d).len
      have hl2 := (OwnB.bytes x2d).len
      have HO := Lib.hid hOd
      have HL := Lib.hid hLd
      have X1 := Lib.hid x1d
      have X2 := Lib.hid x2d
      clear hOd hLd x1d x2d
      go_wp2_with fail
      go_loopw [50] (fun tk wr => ∃ k : Nat, k ≤ d[i].1.length ∧ tk = .int .i64 (k : Int) ∧ Only (fun q => ps[i].1.ownBlock = some q) wo wr ∧ Some8 lo d[i].1.length (.slice a1 d[i].1.length c1) wr) (fun tk _ => d[i].1.length - (intOf tk).toNat)
      case atStart => exact ⟨0, Nat.zero_le _, rfl, Only.refl _ _, ⟨_, rfl, by have := X1.out; rw [Hkv.out] at this; exact this⟩⟩
      case round =>
        obtain ⟨k, hk1, rfl, hOk, h8⟩ := hrel
        have HOk := Lib.hid hOk
        have k0 : (0 : Int) ≤ (k : Int) := by omega
        have qk := (World.cell?_of_block (HOk.out.block g (Nat.lt_of_lt_of_le hg8 HO.out.size) (fun e => hgn (mem_blks hip (.inl e))))).trans q0d
        clear hOk
        by_cases hkl : k < d[i].1.length
        · have kl : (k : Int) < (d[i].1.length : Int) := by omega
          have k9 : (k : Int) + 1 ≤ 9223372036854775807 := by omega
          obtain ⟨g1, x, rfl, -, c0, f0, h8'⟩ := h8.at k hkl
          have H8 := Lib.hid h8'
          have hx8 := add8 x
          clear h8 h8' q0d
          go_wp2_with fail
          refine wp_region_still_tail 16 (by kernel_rfl) (by kernel_rfl) ?_
          change wpStill _ _ (World.drew _) (fun a' => wpList _ _ _ _ a' (World.drew _)) _ _
          simp only [List.take_succ_cons, List.take_zero, List.drop_succ_cons, List.drop_zero]
          repeat still_step
          refine wpStill_nil ?_
          go_wp2_with fail
          go_roundw
          case rel => exact ⟨k + 1, by omega, by go_num, (HOk.out.trans (Only.drew _)).trans (Only.setCell _ (p := ⟨g1, k, none⟩) (by rw [Hkv.out]; rfl) _), H8.out⟩
          case measure => first | (simp [intOf]; done) | (simp [intOf]; omega)
        · have X2k : OwnB lo wr ps[i].2 d[i].2 := X2.out.same (fun q e => HOk.out.block q (X2.out.lt q e).2 (fun e2 => Hap.out.1 i hip q e2 e))
          have q1k := (World.cell?_of_block (HOk.out.block g (Nat.lt_of_lt_of_le hg8 HO.out.size) (fun e => hgn (mem_blks hip (.inl e))))).trans q1d
          have HOk0 : Hid (Only (fun q => ps[i].1.ownBlock = some q) wo wr) := HOk
          clear h8 qk q1d
          obtain ⟨wk, ewk⟩ : ∃ x, x = wr := ⟨_, rfl⟩
          subst ewk
          go_wp2_with fail
          go_loopw [76] (fun tk wr => ∃ k : Nat, k ≤ d[i].2.length ∧ tk = .int .i64 (k : Int) ∧ Only (fun q => ps[i].2.ownBlock = some q) wk wr ∧ Some8 lo d[i].2.length (.slice a2 d[i].2.length c2) wr) (fun tk _ => d[i].2.length - (intOf tk).toNat)
          case atStart => exact ⟨0, Nat.zero_le _, rfl, Only.refl _ _, ⟨_, rfl, by rw [Hkv.out] at X2k; exact X2k⟩⟩
          case round =>
            obtain ⟨k, hk1, rfl, hOk, h8⟩ := hrel
            have HOk := Lib.hid hOk
            have k0 : (0 : Int) ≤ (k : Int) := by omega
            have qk := (World.cell?_of_block (HOk.out.block g (Nat.lt_of_lt_of_le hg8 (Nat.le_trans HO.out.size (by have := HOk0.out.size; exact this))) (fun e => hgn (mem_blks hip (.inr e))))).trans q1k
            clear hOk
            by_cases hkl : k < d[i].2.length
            · have kl : (k : Int) < (d[i].2.length : Int) := by omega
              have k9 : (k : Int) + 1 ≤ 9223372036854775807 := by omega
              obtain ⟨g1, x, rfl, -, c0, f0, h8'⟩ := h8.at k hkl
              have H8 := Lib.hid h8'
              have hx8 := add8 x
              clear h8 h8' q1k
              go_wp2_with fail
              refine wp_region_still_tail 16 (by kernel_rfl) (by kernel_rfl) ?_
              change wpStill _ _ (World.drew _) (fun a' => wpList _ _ _ _ a' (World.drew _)) _ _
              simp only [List.take_succ_cons, List.take_zero, List.drop_succ_cons, List.drop_zero]
              repeat still_step
              refine wpStill_nil ?_
              go_wp2_with fail
              go_roundw
              case rel => exact ⟨k + 1, by omega, by go_num, (HOk.out.trans (Only.drew _)).trans (Only.setCell _ (p := ⟨g1, k, none⟩) (by rw [Hkv.out]; rfl) _), H8.out⟩
              case measure => first | (simp [intOf]; done) | (simp [intOf]; omega)
            · have hOf : Only (fun q => ps[i].1.ownBlock = some q ∨ ps[i].2.ownBlock = some q) wo wr := (HOk0.out.mono (fun _ _ e => .inl e)).trans (HOk.out.mono (fun _ _ e => .inr e))
              go_wp2_with fail
              go_roundw
              case rel => exact ⟨i + 1, by omega, by go_num, HO.out.trans (hOf.mono (fun _ _ e => mem_blks hip e)), HL.out.next HP.out.apart hip hOf⟩
              case measure => first | (simp [intOf]; done) | (simp [intOf]; omega)
    · have hr := HR.out wr HO.out
      go_wp2_with fail
      first | exact hr | exact fin hr rfl
end Go.Proofs.Ytmlcnfomiemdpaa
