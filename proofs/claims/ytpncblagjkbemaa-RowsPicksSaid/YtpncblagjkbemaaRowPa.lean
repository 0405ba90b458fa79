/- What RowsPicks asks of each row. -/
import Derived.Test.YtpncblagjkbemaaRowSl
import Derived.Test.YtpncblagjkbemaaRowQ
import Derived.Test.YtpncblagjkbemaaRowY
namespace Go.Proofs.Ytpncblagjkbemaa
open Go.RowKit
set_option linter.unusedVariables false
set_option linter.unusedSimpArgs false

def keep3 (k : Nat) : Bool := (k + 1) % 3 != 0
/-- The state of what is asked: fine, and how often it was asked. -/
structure AskJ (bf ba br lo hi : Nat) (pc av : Option Addr) (nc cc cv : Nat) (l : List (List V)) (k : Nat) (w : World) : Prop where
  fine : Blk w bf [.bool true] 4
  asked : Blk w ba [.int .i64 k] 3
  box : Blk w br [.slice pc nc cc, .slice av l.length cv] 34
  rows : Rws lo hi w (.slice av l.length cv) l
  le : hi ≤ w.heap.size
theorem AskJ.below {bf ba br lo hi : Nat} {pc av : Option Addr} {nc cc cv : Nat} {l : List (List V)} {k B : Nat} {w w' : World} (h : AskJ bf ba br lo hi pc av nc cc cv l k w) (hB : Below B w w') (h1 : bf < B) (h2 : ba < B) (h3 : br < B) (h4 : hi ≤ B) : AskJ bf ba br lo hi pc av nc cc cv l k w' :=
  ⟨h.fine.below hB h1, h.asked.below hB h2, h.box.below hB h3, Sl.below h.rows rowE_loc hB h4, Nat.le_trans h.le hB.size⟩
theorem AskJ.set {bf ba br lo hi : Nat} {pc av : Option Addr} {nc cc cv : Nat} {l : List (List V)} {k : Nat} {w : World} (h : AskJ bf ba br lo hi pc av nc cc cv l k w) {g i : Nat} (u : Value) (h1 : bf < g) (h2 : ba < g) (h3 : br < g) (h4 : hi ≤ g) : AskJ bf ba br lo hi pc av nc cc cv l k (w.setCell ⟨g, i, none⟩ u) :=
  ⟨h.fine.other (by show bf ≠ g; omega) u, h.asked.other (by show ba ≠ g; omega) u, h.box.other (by show br ≠ g; omega) u, Sl.agree h.rows rowE_loc (Agree.setCell w (p := ⟨g, i, none⟩) (.inr h4) u), by rw [show (w.setCell ⟨g, i, none⟩ u).heap.size = w.heap.size by simp]; exact h.le⟩
theorem AskJ.next {bf ba br lo hi : Nat} {pc av : Option Addr} {nc cc cv : Nat} {l : List (List V)} {k : Nat} {w : World} (h : AskJ bf ba br lo hi pc av nc cc cv l k w) (hfa : bf ≠ ba) (hfr : bf ≠ br) (har : ba ≠ br) (hfl : bf < lo ∨ hi ≤ bf) (hal : ba < lo ∨ hi ≤ ba) :
    AskJ bf ba br lo hi pc av nc cc cv l (k + 1) ((w.setCell ⟨bf, 0, none⟩ (.bool true)).setCell ⟨ba, 0, none⟩ (.int .i64 ((k : Int) + 1))) :=
  ⟨(h.fine.set 0 (.bool true)).other (p := ⟨ba, 0, none⟩) hfa _, (h.asked.other (p := ⟨bf, 0, none⟩) (fun e => hfa e.symm) (.bool true)).set 0 (.int .i64 ((k : Int) + 1)), (h.box.other (p := ⟨bf, 0, none⟩) (fun e => hfr e.symm) _).other (p := ⟨ba, 0, none⟩) (fun e => har e.symm) _,
    Sl.agree h.rows rowE_loc ((Agree.setCell w (p := ⟨bf, 0, none⟩) hfl _).trans (Agree.setCell _ (p := ⟨ba, 0, none⟩) hal _)), by simp; exact h.le⟩
set_option maxRecDepth 100000 in
set_option maxHeartbeats 4000000 in
theorem Picks1_any (bf ba br lo hi zlo k : Nat) (pc av : Option Addr) (nc cc cv : Nat) (l : List (List V)) (hk : k < l.length) (hll : l.length ≤ 1000000) (zv : Value) (w : World) (hJ : AskJ bf ba br lo hi pc av nc cc cv l k w) (hz : OwnV zlo w zv l[k]) (h1 : bf < zlo) (h2 : ba < zlo) (h3 : br < zlo) (h4 : hi ≤ zlo) (hfa : bf ≠ ba) (hfr : bf ≠ br) (har : ba ≠ br) (hfl : bf < lo ∨ hi ≤ bf) (hal : ba < lo ∨ hi ≤ ba)
    (hrs : ∀ x ∈ l, ∀ a ∈ x, a.s.length ≤ 9223372036854775807) (R : Ending → World → Prop)
    (hR : ∀ w', AskJ bf ba br lo hi pc av nc cc cv l (k + 1) w' → Only (fun b => (b = bf ∨ b = ba) ∨ zv.ownBlock = some b) w w' → R (.returned (.bool (keep3 k))) w') :
    Calls Try.prog 36 #[zv, .pointer (some ⟨bf, 0, none⟩), .pointer (some ⟨ba, 0, none⟩), .pointer (some ⟨br, 0, none⟩)] w R := by
  have HR := Lib.hid hR
  have HJ := Lib.hid hJ
  have Hz := Lib.hid hz
  have hkk : (k : Int) < (l.length : Int) := by omega
  have kk0 : (0 : Int) ≤ (k : Int) := by omega
  obtain ⟨b4, o4, rfl, hb4, hrow4⟩ := Rws.at hJ.rows hJ.le (by omega)
  obtain ⟨p2, c2, g2, r2⟩ := hrow4 k hk
  have g0 := g2 w (Below.refl _ _)
  have R2 := Lib.hid r2
  have M2 := Lib.hid (hrs _ (List.getElem_mem hk))
  have hle := hJ.le
  obtain ⟨pz, qz, rfl⟩ := Own.slice hz
  have d0 := hJ.fine.cells.c1
  have d1 := hJ.asked.cells.c1
  obtain ⟨e0, e1⟩ := hJ.box.cells.c2
  simp only [Nat.zero_add] at e1
  have hbfl := hJ.fine.lt
  have hbal := hJ.asked.lt
  have hbrl := hJ.box.lt
  clear hR hJ hz hrow4 g2 r2 hrs
  have hxl := R2.out.len
  generalize l[k] = x at *
  go_enter Try.func36, Try.ntmps36
  go_wp2_with fail
  refine refRowsCompare_any zlo w.heap.size lo hi x x _ _ w (OwnV.sl Hz.out) R2.out (Nat.le_refl _) (by omega) M2.out M2.out _ (fun w1 hB1 => ?_)
  rw [cmpR_self]
  have HB1 := Lib.hid hB1
  have HJ1 := Lib.hid (HJ.out.below hB1 hbfl hbal hbrl hle)
  have Hz1 := Lib.hid (Own.kept Hz.out hB1)
  have f0 := HJ1.out.fine.free 0
  have f1 := HJ1.out.asked.free 0
  have d0 := HJ1.out.fine.cells.c1
  have d1 := HJ1.out.asked.cells.c1
  clear hB1
  go_upto_region 4 with fail
  have HJN := Lib.hid (HJ1.out.next hfa hfr har hfl hal)
  have HSN := Lib.hid (((Shp.ofOwn Hz1.out).setCell bf 0 (.bool true)).setCell ba 0 (.int .i64 ((k : Int) + 1)))
  have HON : Hid (Only (fun b => (b = bf ∨ b = ba) ∨ (Value.slice pz x.length qz).ownBlock = some b) w ((w1.setCell ⟨bf, 0, none⟩ (.bool true)).setCell ⟨ba, 0, none⟩ (.int .i64 ((k : Int) + 1)))) :=
    Lib.hid (((Below.only HB1.out).trans (Only.setCell w1 (p := ⟨bf, 0, none⟩) (.inl (.inl rfl)) _)).trans (Only.setCell _ (p := ⟨ba, 0, none⟩) (.inl (.inr rfl)) _))
  have hks : (((k : Int) + 1) % 3 != 0) = keep3 k := by
    unfold keep3
    rw [Bool.eq_iff_iff]
    simp only [bne_iff_ne, ne_eq]
    omega
  clear d0 d1 f0 f1 HJ1 Hz1 HB1 HJ Hz
  generalize (w1.setCell ⟨bf, 0, none⟩ (.bool true)).setCell ⟨ba, 0, none⟩ (.int .i64 ((k : Int) + 1)) = w3 at *
  generalize keep3 k = kp at *
  go_wp2_with fail
  go_loopw [33] (fun t33 wr => ∃ j : Nat, j ≤ x.length ∧ t33 = .int .i64 j ∧ AskJ bf ba br lo hi pc (some ⟨b4, o4, none⟩) nc cc cv l (k + 1) wr ∧ Only (fun b => (b = bf ∨ b = ba) ∨ (Value.slice pz x.length qz).ownBlock = some b) w wr ∧ Shp 24 3 zlo w1.heap.size wr (.slice pz x.length qz) x.length) (fun t33 _ => x.length - (intOf t33).toNat)
  case atStart => exact ⟨0, Nat.zero_le _, rfl, HJN.out, HON.out, HSN.out⟩
  case round =>
    obtain ⟨j, hj, rfl, hJ', hO', hS'⟩ := hrel
    obtain ⟨wo, ewo⟩ : ∃ x, x = wr := ⟨_, rfl⟩
    subst ewo
    have HJ' := Lib.hid hJ'
    have HO' := Lib.hid hO'
    have HS' := Lib.hid hS'
    have jj0 : (0 : Int) ≤ (j : Int) := by omega
    clear hJ' hO' hS'
    by_cases hlt : j < x.length
    · have jjl : (j : Int) < (x.length : Int) := by omega
      obtain ⟨g, cap, ev, q1, q2, q3, q4, q5, q6⟩ := HS'.out.cell hlt
      injection ev with ev1 ev2 ev3
      subst ev1 ev3
      obtain ⟨u0, hu0⟩ := q5 0 (by omega)
      obtain ⟨u1, hu1⟩ := q5 1 (by omega)
      obtain ⟨u2, hu2⟩ := q5 2 (by omega)
      rw [Nat.add_zero] at hu0
      have hf0 := q6 (j * 3)
      have hf1 := q6 (j * 3 + 1)
      have hf2 := q6 (j * 3 + 2)
      have HJn := Lib.hid (((HJ'.out.set (g := g) (i := j * 3) (.int .i64 98) (by omega) (by omega) (by omega) (by omega)).set (g := g) (i := j * 3 + 1) (.int .i64 0) (by omega) (by omega) (by omega) (by omega)).set (g := g) (i := j * 3 + 2) (.string ⟨#[]⟩) (by omega) (by omega) (by omega) (by omega))
      have HSn := Lib.hid (((HS'.out.setCell g (j * 3) (.int .i64 98)).setCell g (j * 3 + 1) (.int .i64 0)).setCell g (j * 3 + 2) (.string ⟨#[]⟩))
      have HOn := Lib.hid (((HO'.out.trans (Only.setCell _ (p := ⟨g, j * 3, none⟩) (.inr rfl) (.int .i64 98))).trans (Only.setCell _ (p := ⟨g, j * 3 + 1, none⟩) (.inr rfl) (.int .i64 0))).trans (Only.setCell _ (p := ⟨g, j * 3 + 2, none⟩) (.inr rfl) (.string ⟨#[]⟩)))
      clear q5 q6
      go_wp2_with fail
      go_roundw
      case rel => exact ⟨j + 1, by omega, by go_num, HJn.out, HOn.out, HSn.out⟩
      case measure => simp [intOf]; omega
    · obtain rfl : j = x.length := by omega
      have nln : ¬ ((x.length : Nat) : Int) < (x.length : Int) := by omega
      have hr := HR.out wo HJ'.out HO'.out
      go_wp2_with fail
      first | exact hr | exact fin hr rfl
end Go.Proofs.Ytpncblagjkbemaa
