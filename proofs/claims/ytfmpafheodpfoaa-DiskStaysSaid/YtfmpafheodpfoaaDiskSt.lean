/- The walk of DiskStays. (Printed by stays.py; under way.) -/
import Derived.Test.YtfmpafheodpfoaaDiskRw
namespace Go.Proofs.Ytfmpafheodpfoaa
open Go.RowKit Go.Shelf
attribute [local go_sem ↓] Go.wp_at_zero Go.wp_at_succ
set_option linter.unusedVariables false
set_option linter.unusedSimpArgs false

theorem infoSs : (Try.prog.info? 29).map (fun i => (i.zero, i.size, i.bytes)) = some (some (.slice none 0 0), 1, 24) := by kernel_rfl
theorem run_mkSs (n : Nat) (hn : n ≤ 65536) (w : World) : (Instr.makeSlice 43 (.int .i64 (n : Int)) (.int .i64 (n : Int))).run Try.prog w =
    .ok (.slice (some ⟨w.heap.size, 0, none⟩) n n) (w.alloc (.cells (List.replicate n (Value.slice none 0 0)).toArray 29)) := by
  obtain ⟨i0, hi, hz0, hz1, hz2⟩ := info_parts infoSs
  have := run_makeSlice (P := Try.prog) w 43 29 i0 (.slice none 0 0) Try.underlying43 hi hz0 .i64 .i64 (n : Int) (n : Int) (by omega) (Int.le_refl _) (by rw [hz1]; simp; omega) (by rw [hz2]; omega) (by omega)
  rw [this, hz1]
  simp only [Int.toNat_natCast, Nat.mul_one]
  have e : madeCells (Value.slice none 0 0).cells n = (List.replicate n (Value.slice none 0 0)).toArray := by
    apply Array.ext'
    exact toList_madeCells_one _ n
  rw [e]
theorem wrap_nat (r : Nat) (h : r ≤ 9223372036854775807) : IntKind.i64.wrap (r : Int) = (r : Int) := by
  have e : (r : Int) % 2 ^ 64 = r := by omega
  simp only [IntKind.wrap, IntKind.signed, IntKind.bits, e]
  rw [if_neg (by simp; omega)]
/-- Whether the first k of a row hold b. -/
def Met (row : List (List UInt8)) (b : List UInt8) (k : Nat) (v : Bool) : Prop := v = true ↔ ∃ j, j < k ∧ row[j]? = some b
theorem Met.zero (row : List (List UInt8)) (b : List UInt8) : Met row b 0 false := ⟨fun e => (by cases e), fun ⟨j, hj, _⟩ => absurd hj (Nat.not_lt_zero _)⟩
theorem Met.keep {row : List (List UInt8)} {b : List UInt8} {k : Nat} (h : Met row b k true) : Met row b (k + 1) true := ⟨fun _ => by obtain ⟨j, hj, e⟩ := h.1 rfl; exact ⟨j, by omega, e⟩, fun _ => rfl⟩
theorem Met.step {row : List (List UInt8)} {b s : List UInt8} {k : Nat} (h : Met row b k false) (hs : row[k]? = some s) : Met row b (k + 1) (s == b) := by
  constructor
  · intro e
    exact ⟨k, by omega, by rw [hs, eq_of_beq e]⟩
  · rintro ⟨j, hj, e⟩
    by_cases ej : j = k
    · subst ej
      rw [Option.some.inj (hs.symm.trans e)]
      exact beq_self_eq_true b
    · exact absurd (h.2 ⟨j, by omega, e⟩) (by decide)
theorem Met.none {row : List (List UInt8)} {b : List UInt8} {k : Nat} (h : Met row b k false) (hk : row.length ≤ k) : b ∉ row := fun hm => by
  obtain ⟨j, hj, e⟩ := List.mem_iff_getElem.1 hm
  exact absurd (h.2 ⟨j, by omega, by rw [List.getElem?_eq_getElem hj, e]⟩) (by decide)
/-- Torn was met, or it still lies ahead. -/
def Tore (v : Bool) (p : Prop) : Prop := v = true ∨ p
theorem Tore.yes (p : Prop) : Tore true p := .inl rfl
theorem Tore.no {p : Prop} (v : Bool) (h : p) : Tore v p := .inr h
theorem Tore.got {v : Bool} {p : Prop} (h : Tore v p) (hp : ¬ p) : v = true := h.resolve_right hp
theorem Tore.map {v : Bool} {p q : Prop} (h : Tore v p) (f : p → q) : Tore v q := h.imp id f
theorem Tore.none {p : Prop} (h : Tore false p) : p := h.resolve_left (by decide)
theorem extractS (s : List UInt8) (a b : Nat) : (ByteArray.mk s.toArray).extract a b = ⟨((s.drop a).take (b - a)).toArray⟩ := by
  apply ByteArray.ext
  simp only [ByteArray.extract, ByteArray.copySlice]
  apply Array.toList_inj.1
  simp
theorem Bytes.pre {lo hi : Nat} {w : World} {ao : Option Addr} {cap a : Nat} {b : List UInt8} (h : Bytes lo hi w (.slice ao 128 cap) b) (hl : b.length = 128) (ha : a ≤ 128) : Bytes lo hi w (.slice ao a cap) (b.take a) := by
  obtain ⟨ao', cap', e, h1, h2, -, h4⟩ := h.form
  obtain ⟨bb, off, rfl, p1, p2, p3⟩ := h4 0 (by omega)
  injection e with e1 e2 e3
  subst e1 e3
  have := Sl.piece (cap := 0) p3 p1 p2 0 a cap (by omega) (by omega) h2
  simpa using this
theorem Bytes.suf {lo hi : Nat} {w : World} {ao : Option Addr} {cap a : Nat} {b : List UInt8} (h : Bytes lo hi w (.slice ao 128 cap) b) (hl : b.length = 128) (ha : a ≤ 128) : ∃ bb off, ao = some ⟨bb, off, none⟩ ∧ 128 ≤ cap ∧ Bytes lo hi w (.slice (if cap = a then some ⟨bb, off, none⟩ else some ⟨bb, off + a, none⟩) (128 - a) (cap - a)) (b.drop a) := by
  obtain ⟨ao', cap', e, h1, h2, -, h4⟩ := h.form
  obtain ⟨bb, off, rfl, p1, p2, p3⟩ := h4 0 (by omega)
  injection e with e1 e2 e3
  subst e1 e3
  refine ⟨bb, off, rfl, by omega, ?_⟩
  by_cases hc : cap = a
  · have ha8 : a = 128 := by omega
    subst ha8
    rw [if_pos hc, List.drop_eq_nil_of_le (by omega)]
    exact Sl.empty _ _ _ _ _ _ _ (by simp [maxLen]; omega) (fun e => by cases e)
  · rw [if_neg hc]
    have := Sl.piece (cap := 0) p3 p1 p2 a (128 - a) (cap - a) (by omega) (by omega) (by simp [maxLen] at *; omega)
    rw [Nat.mul_one, List.take_of_length_le (by rw [List.length_drop]; omega)] at this
    exact this
theorem dirty_none (d : Dk) (f : Nat → List UInt8) (a : Int) (b : Bool) (c : Int) : ∀ n, dirtyTo ⟨(d.upTo f d.safe.length).safe, (d.upTo f d.safe.length).writes, a, b, c⟩ n = []
  | 0 => rfl
  | n + 1 => by
    have hw : (d.upTo f d.safe.length).writes.getD n [] = [] := by
      by_cases h : n < d.safe.length
      · simp [Dk.upTo, List.getD, h]
      · simp [Dk.upTo, List.getD, h]
    simp only [dirtyTo, dirty_none d f a b c n, hw, if_true, List.nil_append]
theorem RowsAt.made {w : World} {T : Nat → Prop} {rb m : Nat} (hb : Blk w rb (List.replicate m (.slice none 0 0)) 29) (ht : T rb) : RowsAt w T rb (List.replicate m (.slice none 0 0)) (List.replicate m []) where
  hb := hb
  len := by simp
  row := fun i h1 h2 => by rw [List.getElem_replicate, List.getElem_replicate]; exact .inl ⟨rfl, rfl⟩
  apart := fun i j h1 h2 g e _ => by rw [List.getElem_replicate] at e; cases e
  mine := fun i h1 g e => by rw [List.getElem_replicate] at e; cases e
  tb := ht

set_option maxRecDepth 100000 in
set_option maxHeartbeats 16000000 in
theorem DiskStays_any (lo hi : Nat) (l : List DOp) (v : Value) (n : Int) (kv : Value) (keep : List UInt8) (tn at' : Int) (w : World) (hv : Sl opE 8 lo hi w v l) (hkp : Bytes lo hi w kv keep) (hhi : hi ≤ w.heap.size) (hn0 : 0 ≤ n) (hn1 : n ≤ 255) (R : Ending → World → Prop)
    (hR : ∀ w', Below w.heap.size w w' → R (.returned (.bool true)) w') : Calls Try.prog 4 #[.int .u8 n, v, .agg #[kv, .int .i64 tn, .int .i64 at']] w R := by
  have HR := Lib.hid hR
  have Hv := Lib.hid hv
  have Hkp := Lib.hid hkp
  obtain ⟨ao, acap, rfl, aq1, aq2, -, hc⟩ := hv.form
  obtain ⟨ko, kcap, rfl, kq1, kq2, -, -⟩ := hkp.form
  have Hc := Lib.hid hc
  have hB0 : Below w.heap.size w (w.alloc (.cells #[.slice ko keep.length kcap, .int .i64 tn, .int .i64 at'] 34)) := (Below.refl _ _).alloc (Nat.le_refl _) _
  have hf0 : Blk (w.alloc (.cells #[.slice ko keep.length kcap, .int .i64 tn, .int .i64 at'] 34)) w.heap.size [.slice ko keep.length kcap, .int .i64 tn, .int .i64 at'] 34 := Blk.new _ _ _ rfl
  have hs0 : (w.alloc (.cells #[.slice ko keep.length kcap, .int .i64 tn, .int .i64 at'] 34)).heap.size = w.heap.size + 1 := by simp
  have HB0 := Lib.hid hB0
  have Hf0 := Lib.hid hf0
  clear hR hv hc hkp hB0 hf0
  go_enter Try.func4, Try.ntmps4
  generalize hW0 : w.alloc (.cells #[.slice ko keep.length kcap, .int .i64 tn, .int .i64 at'] 34) = w0 at *
  go_wp2_with fail
  clear hW0
  refine alive_any w0 _ (fun w1 hB1 => ?_)
  have HB1 := Lib.hid (HB0.out.trans (hB1.mono (by omega)))
  have Hv1 := Lib.hid (Sl.below Hv.out opE_loc HB1.out hhi)
  have hs1 := hB1.size
  have Hf1 := Lib.hid (Hf0.out.below hB1 (by omega))
  have cf0 := Hf1.out.cells.c3.1
  clear hB1 Hv HB0 Hf0
  go_wp2_with fail
  refine great_any lo hi l _ w1 Hv1.out _ ?_
  by_cases hg : (decide (150 < l.length) || l.any DOp.great) = true
  · rw [hg]
    have hr := HR.out w1 HB1.out
    clear HR
    go_wp2_with fail
    all_goals first | exact hr | exact fin hr rfl
  rw [Bool.not_eq_true] at hg
  rw [hg]
  have hll : l.length ≤ 150 := by
    simp only [Bool.or_eq_false_iff, decide_eq_false_iff_not] at hg
    omega
  have Hg := Lib.hid hg
  clear hg
  by_cases hkl : 200 < keep.length
  · have hr := HR.out w1 HB1.out
    clear HR
    go_wp2_with fail
    all_goals first | exact hr | exact fin hr rfl
  obtain ⟨m, hm, hm1, hm2⟩ : ∃ m : Nat, 1 + n % 40 = (m : Int) ∧ 1 ≤ m ∧ m ≤ 40 := ⟨(1 + n % 40).toNat, by omega, by omega, by omega⟩
  go_wp2_with fail
  refine New_ok m hm1 (by omega) w1 _ (fun w2 db hB2 hdb1 hdb2 hD2 => ?_)
  have HB2 := Lib.hid hB2
  have hs2 := hB2.size
  have hmk := run_mkSs m (by omega) w2
  have hB3 : Below w2.heap.size w2 (w2.alloc (.cells (List.replicate m (Value.slice none 0 0)).toArray 29)) := (Below.refl _ _).alloc (Nat.le_refl _) _
  have hb3 : Blk (w2.alloc (.cells (List.replicate m (Value.slice none 0 0)).toArray 29)) w2.heap.size (List.replicate m (.slice none 0 0)) 29 := Blk.new _ _ _ rfl
  have hs3 : (w2.alloc (.cells (List.replicate m (Value.slice none 0 0)).toArray 29)).heap.size = w2.heap.size + 1 := by simp
  have HB3 := Lib.hid hB3
  have HRw3 := Lib.hid (RowsAt.made (T := fun q => w2.heap.size ≤ q ∧ q < (w2.alloc (.cells (List.replicate m (Value.slice none 0 0)).toArray 29)).heap.size) hb3 ⟨Nat.le_refl _, by omega⟩)
  have HD2 := Lib.hid hD2
  clear hD2 hB2 hB3 hb3
  generalize hW3 : w2.alloc (.cells (List.replicate m (Value.slice none 0 0)).toArray 29) = w3 at *
  clear hW3
  go_wp2_with fail
  clear hmk
  go_loopw [57] (fun t57 wr => ∃ (k : Nat) (hs : List Value) (rows : List (List (List UInt8))), k ≤ m ∧ t57 = .int .i64 k ∧ Below w2.heap.size w2 wr ∧ RowsAt wr (fun q => w2.heap.size ≤ q ∧ q < wr.heap.size) w2.heap.size hs rows ∧ rows.length = m ∧ (∀ j, j < k → rows[j]? = some [zeroS]) ∧ ∀ j, k ≤ j → j < m → rows[j]? = some []) (fun t57 _ => m - (intOf t57).toNat)
  case atStart => exact ⟨0, _, _, Nat.zero_le _, rfl, HB3.out, HRw3.out, by simp, fun j hj => absurd hj (Nat.not_lt_zero _), fun j _ hj => by rw [List.getElem?_replicate, if_pos hj]⟩
  case round =>
    obtain ⟨k, hs, rows, hk, rfl, hB, hRw, hl, hz, hy⟩ := hrel
    have HB := Lib.hid hB
    have HRw := Lib.hid hRw
    have Hz := Lib.hid hz
    have Hy := Lib.hid hy
    have hsr := hB.size
    have hrlt := hRw.hb.lt
    have hhl := hRw.len
    clear hB hRw hz hy
    by_cases hlt : k < m
    · go_wp2_with fail
      refine of_any 0 wr _ (fun wf hBf hbf => ?_)
      have hsf := hBf.size
      have hcv := str (Bytes.ofCells (c := 128) (l := List.replicate 128 0) (lo := wr.heap.size) (hi := wr.heap.size + 1) hbf.cells (Nat.le_refl _) (Nat.lt_succ_self _) (by simp) (by decide))
      rw [List.length_replicate] at hcv
      have hBg : Below wr.heap.size wr (wf.alloc (.cells #[sV zeroS] 9)) := hBf.alloc hsf _
      have hsg : (wf.alloc (.cells #[sV zeroS] 9)).heap.size = wf.heap.size + 1 := by simp
      have hki : k < hs.length := by omega
      have ho : RowO (wf.alloc (.cells #[sV zeroS] 9)) (.slice (some ⟨wf.heap.size, 0, none⟩) 1 1) [zeroS] :=
        .inr (OwnO.ofOwn (n := 1) (World.ownsRow_lit (base := 0) (e := 9) (size := 1) wf #[sV zeroS] 1 (Nat.zero_le _) (by decide) rfl) (by decide))
      have hput := HRw.out.put k hki (.slice (some ⟨wf.heap.size, 0, none⟩) 1 1) [zeroS] (fun q hq _ => hBg.block q hq) ho (.inr ⟨_, rfl, hsf⟩) hBg.size
      have hc2 : (wf.alloc (.cells #[sV zeroS] 9)).cell? ⟨w2.heap.size, k, none⟩ = some hs[k] := by
        have := (HRw.out.hb.below hBg hrlt).cells k hs[k] (List.getElem?_eq_getElem hki)
        rwa [Nat.zero_add] at this
      have hf2 := (HRw.out.hb.below hBg hrlt).free k
      have hz4 : ((wf.alloc (.cells #[sV zeroS] 9)).setCell ⟨w2.heap.size, k, none⟩ (.slice (some ⟨wf.heap.size, 0, none⟩) 1 1)).heap.size = wf.heap.size + 1 := by simp [World.setCell]
      have HRw2 := Lib.hid (hput.keep (T' := fun q => w2.heap.size ≤ q ∧ q < ((wf.alloc (.cells #[sV zeroS] 9)).setCell ⟨w2.heap.size, k, none⟩ (.slice (some ⟨wf.heap.size, 0, none⟩) 1 1)).heap.size) (fun _ _ _ => rfl) (fun q hq => by rw [hz4]; omega))
      have HB2' := Lib.hid ((HB.out.trans (hBg.mono hsr)).setCell (p := ⟨w2.heap.size, k, none⟩) (Nat.le_refl _) (.slice (some ⟨wf.heap.size, 0, none⟩) 1 1))
      rw [show sV zeroS = .string ⟨zeroS.toArray⟩ from rfl] at *
      have hz0 : (List.replicate 128 0 : List UInt8) = zeroS := rfl
      rw [hz0] at hcv
      clear hbf hBf hBg ho hput hz0 HRw HB
      go_wp2_with fail
      go_roundw
      case rel => exact ⟨k + 1, _, _, by omega, by go_num, HB2'.out, HRw2.out, by rw [List.length_set]; exact hl, fun j hj => by
        by_cases e : j = k
        · subst e; rw [List.getElem?_set_self (by omega)]
        · rw [List.getElem?_set_ne (Ne.symm e)]; exact Hz.out j (by omega), fun j h1 h2 => by
        rw [List.getElem?_set_ne (by omega)]; exact Hy.out j (by omega) h2⟩
      case measure => simp [intOf]; omega
    · have HD4 := Lib.hid (HD2.out.below HB.out)
      have HB4 := Lib.hid (HB2.out.trans (HB.out.mono hs2))
      have HRw4 : Hid (∀ j, j < m → rows[j]? = some ((Dk.fresh m).row j)) := Lib.hid (fun j hj => by rw [Hz.out j (by omega), row_fresh m j hj])
      clear Hz Hy HD2 HB2 HB3 HRw3
      go_wp2_with fail
      go_loopw [69] (fun t69 wx => ∃ (k : Nat) (d : Dk) (hs : List Value) (rows : List (List (List UInt8))) (S T : Nat → Prop), k ≤ l.length ∧ t69 = .int .i64 k ∧ Below w1.heap.size w1 wx ∧ (∀ q, S q → w1.heap.size ≤ q ∧ q < wx.heap.size) ∧ (∀ q, T q → w1.heap.size ≤ q ∧ q < wx.heap.size) ∧ (∀ q, S q → ¬ T q) ∧ DkAt wx S db d ∧ Calm d m (2 * k) ∧ RowsAt wx T w2.heap.size hs rows ∧ rows.length = m ∧ ∀ j, j < m → rows[j]? = some (d.row j)) (fun t69 _ => l.length - (intOf t69).toNat)
      case atStart => exact ⟨0, Dk.fresh m, hs, rows, _, _, Nat.zero_le _, rfl, HB4.out, fun q hq => ⟨hq.1, by have := hq.2; omega⟩, fun q hq => ⟨by have := hq.1; omega, hq.2⟩, fun q h1 h2 => by have := h1.2; have := h2.1; omega, HD4.out, Calm.fresh m, HRw.out, hl, HRw4.out⟩
      case round =>
        clear HRw HB4 HD4 HRw4 hrlt hhl hl hsr
        obtain ⟨k2, d, hs2', rows2, S, T, hk2, rfl, hB, hS, hT, hST, hD, hK, hRw, hl, hz⟩ := hrel
        have HB := Lib.hid hB
        have HS := Lib.hid hS
        have HT := Lib.hid hT
        have HST := Lib.hid hST
        have HD := Lib.hid hD
        have HK := Lib.hid hK
        have HRw := Lib.hid hRw
        have Hz := Lib.hid hz
        have hsx := hB.size
        clear hB hS hT hST hD hK hRw hz
        by_cases hlt : k2 < l.length
        · obtain ⟨ob, ooff, rfl, op1, op2, oc⟩ := Hc.out k2 hlt
          obtain ⟨cs, -, hcs, dv, kv2, ecs, hdv, -⟩ := oc k2 hlt
          subst ecs
          obtain ⟨x0, x1, -, x3, -, -, -, -⟩ := hcs.c8
          have hob := (HB.out.block ob (by omega)).trans (HB1.out.block ob (by omega))
          replace x0 := (World.cell?_of_block hob).trans x0
          replace x1 := (World.cell?_of_block hob).trans x1
          replace x3 := (World.cell?_of_block hob).trans x3
          have hdv := Lib.hid (Sl.below (Sl.below hdv (flat_loc _) HB1.out hhi) (flat_loc _) HB.out (by omega))
          clear hcs oc hob
          generalize l[k2] = op at *
          by_cases h1 : op.kind = 1
          · rw [h1] at x0
            go_wp2_with fail
            refine Flush_ok S db d m (2 * k2) _ HD.out HK.out (by omega) (fun q hq => (HS.out q hq).2) _ (fun wa hOa hDa => ?_)
            have hsa := hOa.size
            have HDa := Lib.hid hDa
            have HBa := Lib.hid (HB.out.trans (hOa.below (B := w1.heap.size) hsx (fun q e => (HS.out q e).1)))
            have HRa := Lib.hid (HRw.out.keep (w' := wa) (T' := T) (fun q hq hlt => hOa.block q hlt (fun e => HST.out q e hq)) (fun _ h => h))
            have hhl2 := HRw.out.len
            clear hOa hDa HD HRw HB x0 x1 x3 hdv
            go_wp2_with fail
            go_loopw [84] (fun t84 wy => ∃ (j : Nat) (hs3 : List Value) (rows3 : List (List (List UInt8))), j ≤ m ∧ t84 = .int .i64 j ∧ Only T wa wy ∧ RowsAt wy T w2.heap.size hs3 rows3 ∧ rows3.length = m ∧ (∀ i, i < j → rows3[i]? = some (d.fl.row i)) ∧ ∀ i, j ≤ i → i < m → rows3[i]? = some (d.row i)) (fun t84 _ => m - (intOf t84).toNat)
            case atStart => exact ⟨0, hs2', rows2, Nat.zero_le _, rfl, Only.refl _ _, HRa.out, hl, fun i hi => absurd hi (Nat.not_lt_zero _), fun i _ hi => Hz.out i hi⟩
            case round =>
              obtain ⟨j, hs3, rows3, hj, rfl, hO, hRw, hl3, hz1, hz2⟩ := hrel
              have HO := Lib.hid hO
              have HRw := Lib.hid hRw
              have Hz1 := Lib.hid hz1
              have Hz2 := Lib.hid hz2
              have hsy := hO.size
              have hrlt := hRw.hb.lt
              have hhl3 := hRw.len
              clear hO hRw hz1 hz2
              by_cases hjm : j < m
              · have hji : j < hs3.length := by omega
                have hjr : j < rows3.length := by omega
                have hrj : rows3[j] = d.row j := by
                  have := Hz2.out j (Nat.le_refl _) hjm
                  rw [List.getElem?_eq_getElem hjr] at this
                  exact Option.some.inj this
                have hro := (HRw.out.row j hji hjr).own (by rw [hrj]; simp [Dk.row])
                rw [hrj] at hro
                obtain ⟨r, er⟩ : ∃ r, (d.row j).length = r + 1 := ⟨_, rfl⟩
                obtain ⟨g, o, cap, ev, hcap, hcm⟩ : ∃ g o cap, hs3[j] = .slice (some ⟨g, o, none⟩) (r + 1) cap ∧ r + 1 ≤ cap ∧ cap ≤ maxLen := by
                  obtain ⟨g, o, cap, cur, hv, -, -, h4, h5, -⟩ := hro
                  rw [List.length_map, er] at hv h4
                  exact ⟨g, o, cap, hv, h4, h5⟩
                rw [ev] at hro
                have hdr := hro.drop r (by omega)
                have hlast := row_last d j
                rw [er, Nat.add_sub_cancel] at hlast
                rw [← List.map_drop, hlast, Nat.add_sub_cancel_left] at hdr
                have hput := HRw.out.put j hji (.slice (some ⟨g, o + r, none⟩) 1 (cap - r)) [d.last j] (w2 := wr.drew) (fun _ _ _ => rfl) (.inr hdr) (.inl (by rw [ev]; rfl)) (Nat.le_refl _)
                have HRy := Lib.hid (hput.keep (T' := T) (fun _ _ _ => rfl) (fun q hq => hq.resolve_right (fun e => by have e1 := e.1; have e2 := e.2; exact absurd e2 (Nat.not_lt.2 e1))))
                have HOy := Lib.hid ((HO.out.trans (Only.drew wr)).trans (Only.setCell (A := T) wr.drew (p := ⟨w2.heap.size, j, none⟩) HRw.out.tb (.slice (some ⟨g, o + r, none⟩) 1 (cap - r))))
                have cj : wr.drew.cell? ⟨w2.heap.size, j, none⟩ = some (.slice (some ⟨g, o, none⟩) (r + 1) cap) := by
                  have := HRw.out.hb.cells j hs3[j] (List.getElem?_eq_getElem hji)
                  rw [Nat.zero_add, ev] at this
                  exact this
                have fj : wr.drew.frozen? ⟨w2.heap.size, j, none⟩ = false := HRw.out.hb.free j
                clear hput hdr hlast hro HRw HO
                have j0 : (0 : Int) ≤ (j : Int) := by omega
                have jm : (j : Int) < (m : Int) := by omega
                have hmc : maxLen ≤ 9223372036854775807 := by decide
                go_wp2_with fail
                refine wp_calm ?_
                refine wp_region_held_drew (S := fun _ => True) (by kernel_rfl) trivial (fun hHeld => ?_)
                refine wpAnyH_take (i := 0) (v := .slice (some ⟨w2.heap.size, 0, none⟩) m m) rfl (by kernel_rfl) (by kernel_rfl) (by kernel_rfl) (fun _ _ _ h => h) (Or.inl ⟨by rfl, ?_⟩) hHeld ?_
                · intro w' hSw; go_simp
                try simp only [Act.put, List.getElem_toArray, List.getElem_cons_succ, List.getElem_cons_zero, List.setIfInBounds_toArray, List.set_cons_zero, List.set_cons_succ]
                refine wpAnyH_take (i := 1) (v := .int .i64 j) rfl (by kernel_rfl) (by kernel_rfl) (by kernel_rfl) (fun _ _ _ h => h) (Or.inl ⟨by rfl, ?_⟩) hHeld ?_
                · intro w' hSw; go_simp
                try simp only [Act.put, List.getElem_toArray, List.getElem_cons_succ, List.getElem_cons_zero, List.setIfInBounds_toArray, List.set_cons_zero, List.set_cons_succ]
                refine wpAnyH_take (i := 2) (v := .slice (some ⟨w2.heap.size, 0, none⟩) m m) rfl (by kernel_rfl) (by kernel_rfl) (by kernel_rfl) (fun _ _ _ h => h) (Or.inl ⟨by rfl, ?_⟩) hHeld ?_
                · intro w' hSw; go_simp
                try simp only [Act.put, List.getElem_toArray, List.getElem_cons_succ, List.getElem_cons_zero, List.setIfInBounds_toArray, List.set_cons_zero, List.set_cons_succ]
                refine wpAnyH_take (i := 3) (v := .int .i64 j) rfl (by kernel_rfl) (by kernel_rfl) (by kernel_rfl) (fun _ _ _ h => h) (Or.inl ⟨by rfl, ?_⟩) hHeld ?_
                · intro w' hSw; go_simp
                try simp only [Act.put, List.getElem_toArray, List.getElem_cons_succ, List.getElem_cons_zero, List.setIfInBounds_toArray, List.set_cons_zero, List.set_cons_succ]
                refine wpAnyH_take (i := 4) (v := .pointer (some ⟨w2.heap.size, j, none⟩)) rfl (by kernel_rfl) (by kernel_rfl) (by kernel_rfl) (fun _ _ _ h => h) (Or.inl ⟨by rfl, ?_⟩) hHeld ?_
                · intro w' hSw; go_simp
                try simp only [Act.put, List.getElem_toArray, List.getElem_cons_succ, List.getElem_cons_zero, List.setIfInBounds_toArray, List.set_cons_zero, List.set_cons_succ]
                refine wpAnyH_take (i := 6) (v := .slice (some ⟨w2.heap.size, 0, none⟩) m m) rfl (by kernel_rfl) (by kernel_rfl) (by kernel_rfl) (fun _ _ _ h => h) (Or.inl ⟨by rfl, ?_⟩) hHeld ?_
                · intro w' hSw; go_simp
                try simp only [Act.put, List.getElem_toArray, List.getElem_cons_succ, List.getElem_cons_zero, List.setIfInBounds_toArray, List.set_cons_zero, List.set_cons_succ]
                refine wpAnyH_take (i := 7) (v := .int .i64 j) rfl (by kernel_rfl) (by kernel_rfl) (by kernel_rfl) (fun _ _ _ h => h) (Or.inl ⟨by rfl, ?_⟩) hHeld ?_
                · intro w' hSw; go_simp
                try simp only [Act.put, List.getElem_toArray, List.getElem_cons_succ, List.getElem_cons_zero, List.setIfInBounds_toArray, List.set_cons_zero, List.set_cons_succ]
                refine wpAnyH_take (i := 8) (v := .pointer (some ⟨w2.heap.size, j, none⟩)) rfl (by kernel_rfl) (by kernel_rfl) (by kernel_rfl) (fun _ _ _ h => h) (Or.inl ⟨by rfl, ?_⟩) hHeld ?_
                · intro w' hSw; go_simp
                try simp only [Act.put, List.getElem_toArray, List.getElem_cons_succ, List.getElem_cons_zero, List.setIfInBounds_toArray, List.set_cons_zero, List.set_cons_succ]

                have hD1 : True := trivial
                refine wpAnyH_ready (rs := [5, 9]) (by kernel_rfl) (by simp) ?_
                refine allVal (v := .slice (some ⟨g, o, none⟩) (r + 1) cap) (w' := wr.drew) rfl (by kernel_rfl) ?_ trivial ?_ ?_
                · go_simp
                · try simp only [Act.put, List.getElem_toArray, List.getElem_cons_succ, List.getElem_cons_zero, List.setIfInBounds_toArray, List.set_cons_zero, List.set_cons_succ]
                  refine wpAnyH_ready (rs := [9]) (by kernel_rfl) (by simp) ?_
                  refine allVal (v := .slice (some ⟨g, o, none⟩) (r + 1) cap) (w' := wr.drew) rfl (by kernel_rfl) ?_ trivial ?_ AllReadyH.nil
                  · go_simp
                  try simp only [Act.put, List.getElem_toArray, List.getElem_cons_succ, List.getElem_cons_zero, List.setIfInBounds_toArray, List.set_cons_zero, List.set_cons_succ]
                  refine wpAnyH_take (i := 10) (v := .int .i64 ((r : Int) + 1)) rfl (by kernel_rfl) (by kernel_rfl) (by kernel_rfl) (fun _ _ _ h => h) (Or.inl ⟨by rfl, ?_⟩) hHeld ?_
                  · intro w' hSw; go_simp
                  try simp only [Act.put, List.getElem_toArray, List.getElem_cons_succ, List.getElem_cons_zero, List.setIfInBounds_toArray, List.set_cons_zero, List.set_cons_succ]
                  refine wpAnyH_take (i := 11) (v := .int .i64 r) rfl (by kernel_rfl) (by kernel_rfl) (by kernel_rfl) (fun _ _ _ h => h) (Or.inl ⟨by rfl, ?_⟩) hHeld ?_
                  · intro w' hSw; go_simp; exact wrap_nat r (by omega)
                  try simp only [Act.put, List.getElem_toArray, List.getElem_cons_succ, List.getElem_cons_zero, List.setIfInBounds_toArray, List.set_cons_zero, List.set_cons_succ]
                  refine wpAnyH_take (i := 12) (v := .slice (some ⟨g, o + r, none⟩) 1 (cap - r)) rfl (by kernel_rfl) (by kernel_rfl) (by kernel_rfl) (fun _ _ _ h => h) (Or.inl ⟨by rfl, ?_⟩) hHeld ?_
                  · intro w' hSw; have rle : (r : Int) ≤ (r : Int) + 1 := by omega
                    have rne : ¬ cap = r := by omega
                    go_simp
                  try simp only [Act.put, List.getElem_toArray, List.getElem_cons_succ, List.getElem_cons_zero, List.setIfInBounds_toArray, List.set_cons_zero, List.set_cons_succ]
                  refine wpAnyH_ready (rs := [13]) (by kernel_rfl) (by simp) ?_
                  refine allVal (v := .pointer (some ⟨w2.heap.size, j, none⟩)) (w' := wr.drew) rfl (by kernel_rfl) ?_ trivial ?_ AllReadyH.nil
                  · go_simp
                  try simp only [Act.put, List.getElem_toArray, List.getElem_cons_succ, List.getElem_cons_zero, List.setIfInBounds_toArray, List.set_cons_zero, List.set_cons_succ]
                  refine wpAnyH_ready (rs := [14]) (by kernel_rfl) (by simp) ?_
                  refine allSkip (w' := wr.drew.setCell ⟨w2.heap.size, j, none⟩ (.slice (some ⟨g, o + r, none⟩) 1 (cap - r))) rfl (by kernel_rfl) ?_ trivial ?_ AllReadyH.nil
                  · go_simp
                  try simp only [Act.put, List.getElem_toArray, List.getElem_cons_succ, List.getElem_cons_zero, List.setIfInBounds_toArray, List.set_cons_zero, List.set_cons_succ]
                  refine wpAnyH_done (by kernel_rfl) (calm_normal ?_) _
                  go_wp2_with fail
                  go_roundw
                  case rel => exact ⟨j + 1, _, _, by omega, by go_num, HOy.out, HRy.out, by rw [List.length_set]; exact hl3, fun i hi => by
                    by_cases e : i = j
                    · subst e; rw [List.getElem?_set_self (by omega), row_fl i (by rw [HK.out.len]; exact hjm)]
                    · rw [List.getElem?_set_ne (Ne.symm e)]; exact Hz1.out i (by omega), fun i h1 h2 => by
                    rw [List.getElem?_set_ne (by omega)]; exact Hz2.out i (by omega) h2⟩
                  case measure => simp [intOf]; omega
                · refine allVal (v := .slice (some ⟨g, o, none⟩) (r + 1) cap) (w' := wr.drew) rfl (by kernel_rfl) ?_ trivial ?_ AllReadyH.nil
                  · go_simp
                  try simp only [Act.put, List.getElem_toArray, List.getElem_cons_succ, List.getElem_cons_zero, List.setIfInBounds_toArray, List.set_cons_zero, List.set_cons_succ]
                  refine wpAnyH_take (i := 10) (v := .int .i64 ((r : Int) + 1)) rfl (by kernel_rfl) (by kernel_rfl) (by kernel_rfl) (fun _ _ _ h => h) (Or.inl ⟨by rfl, ?_⟩) hHeld ?_
                  · intro w' hSw; go_simp
                  try simp only [Act.put, List.getElem_toArray, List.getElem_cons_succ, List.getElem_cons_zero, List.setIfInBounds_toArray, List.set_cons_zero, List.set_cons_succ]
                  refine wpAnyH_take (i := 11) (v := .int .i64 r) rfl (by kernel_rfl) (by kernel_rfl) (by kernel_rfl) (fun _ _ _ h => h) (Or.inl ⟨by rfl, ?_⟩) hHeld ?_
                  · intro w' hSw; go_simp; exact wrap_nat r (by omega)
                  try simp only [Act.put, List.getElem_toArray, List.getElem_cons_succ, List.getElem_cons_zero, List.setIfInBounds_toArray, List.set_cons_zero, List.set_cons_succ]
                  refine wpAnyH_ready (rs := [5]) (by kernel_rfl) (by simp) ?_
                  refine allVal (v := .slice (some ⟨g, o, none⟩) (r + 1) cap) (w' := wr.drew) rfl (by kernel_rfl) ?_ trivial ?_ AllReadyH.nil
                  · go_simp
                  try simp only [Act.put, List.getElem_toArray, List.getElem_cons_succ, List.getElem_cons_zero, List.setIfInBounds_toArray, List.set_cons_zero, List.set_cons_succ]
                  refine wpAnyH_take (i := 12) (v := .slice (some ⟨g, o + r, none⟩) 1 (cap - r)) rfl (by kernel_rfl) (by kernel_rfl) (by kernel_rfl) (fun _ _ _ h => h) (Or.inl ⟨by rfl, ?_⟩) hHeld ?_
                  · intro w' hSw; have rle : (r : Int) ≤ (r : Int) + 1 := by omega
                    have rne : ¬ cap = r := by omega
                    go_simp
                  try simp only [Act.put, List.getElem_toArray, List.getElem_cons_succ, List.getElem_cons_zero, List.setIfInBounds_toArray, List.set_cons_zero, List.set_cons_succ]
                  refine wpAnyH_ready (rs := [13]) (by kernel_rfl) (by simp) ?_
                  refine allVal (v := .pointer (some ⟨w2.heap.size, j, none⟩)) (w' := wr.drew) rfl (by kernel_rfl) ?_ trivial ?_ AllReadyH.nil
                  · go_simp
                  try simp only [Act.put, List.getElem_toArray, List.getElem_cons_succ, List.getElem_cons_zero, List.setIfInBounds_toArray, List.set_cons_zero, List.set_cons_succ]
                  refine wpAnyH_ready (rs := [14]) (by kernel_rfl) (by simp) ?_
                  refine allSkip (w' := wr.drew.setCell ⟨w2.heap.size, j, none⟩ (.slice (some ⟨g, o + r, none⟩) 1 (cap - r))) rfl (by kernel_rfl) ?_ trivial ?_ AllReadyH.nil
                  · go_simp
                  try simp only [Act.put, List.getElem_toArray, List.getElem_cons_succ, List.getElem_cons_zero, List.setIfInBounds_toArray, List.set_cons_zero, List.set_cons_succ]
                  refine wpAnyH_done (by kernel_rfl) (calm_normal ?_) _
                  go_wp2_with fail
                  go_roundw
                  case rel => exact ⟨j + 1, _, _, by omega, by go_num, HOy.out, HRy.out, by rw [List.length_set]; exact hl3, fun i hi => by
                    by_cases e : i = j
                    · subst e; rw [List.getElem?_set_self (by omega), row_fl i (by rw [HK.out.len]; exact hjm)]
                    · rw [List.getElem?_set_ne (Ne.symm e)]; exact Hz1.out i (by omega), fun i h1 h2 => by
                    rw [List.getElem?_set_ne (by omega)]; exact Hz2.out i (by omega) h2⟩
                  case measure => simp [intOf]; omega

              · have HDw := Lib.hid (HDa.out.keep (w' := wr) (S' := S) (fun q hq hlt => HO.out.block q hlt (fun e => HST.out q hq e)) (fun _ h => h))
                have HBw := Lib.hid (HBa.out.trans (HO.out.below (B := w1.heap.size) (by omega) (fun q e => (HT.out q e).1)))
                have HKw : Hid (Calm d.fl m (2 * (k2 + 1))) := Lib.hid (HK.out.fl.mono (by omega))
                clear HDa HBa HRa HO hhl2
                go_wp2_with fail
                go_roundw
                case rel => exact ⟨k2 + 1, d.fl, hs3, rows3, S, T, by omega, by go_num, HBw.out, fun q hq => ⟨(HS.out q hq).1, by have := (HS.out q hq).2; omega⟩, fun q hq => ⟨(HT.out q hq).1, by have := (HT.out q hq).2; omega⟩, HST.out, HDw.out, HKw.out, HRw.out, hl3, fun i hi => Hz1.out i (by omega)⟩
                case measure => simp [intOf]; omega
          · obtain ⟨ki, hki, hkim⟩ : ∃ ki : Nat, wrap64 (op.i % 4294967296 % (m : Int)) = (ki : Int) ∧ ki < m := by
              have e1 := Int.emod_nonneg (op.i % 4294967296) (show (m : Int) ≠ 0 by omega)
              have e2 := Int.emod_lt_of_pos (op.i % 4294967296) (show (0 : Int) < (m : Int) by omega)
              generalize op.i % 4294967296 % (m : Int) = z at *
              refine ⟨z.toNat, ?_, by omega⟩
              simp only [wrap64]
              omega
            have ki0 : (0 : Int) ≤ (ki : Int) := by omega
            have kim : (ki : Int) < (m : Int) := by omega
            go_wp2_with fail
            refine Full_any lo hi dv op.data wr hdv.out (by omega) _ (fun wf hBf hbf => ?_)
            have hsf := hBf.size
            have hfl := full_length op.data
            have hbfl := hbf.lt
            have HDf := Lib.hid (HD.out.keep (w' := wf) (S' := S) (fun q hq hq2 => hBf.block q hq2) (fun _ h => h))
            have HBf := Lib.hid (HB.out.trans (hBf.mono hsx))
            have Hbf := Lib.hid hbf
            have HRf := Lib.hid (HRw.out.keep (w' := wf) (T' := T) (fun q hq hlt => hBf.block q hlt) (fun _ h => h))
            clear hBf hbf HD HB HRw x0 x1 x3 hdv
            generalize full op.data = b at *
            go_wp2_with fail
            refine Write_ok S wr.heap.size db d m (2 * k2) ki b wf HDf.out HK.out (by omega) (fun q hq => by have := (HS.out q hq).2; omega) Hbf.out hfl hkim _ (fun wa hOa hDa => ?_)
            have hsa := hOa.size
            have hba := hOa.blk Hbf.out (fun e => by have := (HS.out _ e).2; omega)
            have hcb : ∀ w' : World, w'.heap[wr.heap.size]? = wa.heap[wr.heap.size]? → (convert 30 9 (.slice (some ⟨wr.heap.size, 0, none⟩) 128 128)).run Try.prog w' = .ok (.string ⟨b.toArray⟩) w' := fun w' hw' => by
              have hbw : Blk w' wr.heap.size (b.flatMap bE) 5 := Eq.trans hw' hba
              have := str (Bytes.ofCells (c := 128) (l := b) (lo := wr.heap.size) (hi := wr.heap.size + 1) hbw.cells (Nat.le_refl _) (Nat.lt_succ_self _) (by omega) (by decide))
              rwa [hfl] at this
            have HRa := Lib.hid (HRf.out.keep (w' := wa) (T' := T) (fun q hq hlt => hOa.block q hlt (fun e => HST.out q e hq)) (fun _ h => h))
            have HBa := Lib.hid (HBf.out.trans (hOa.below (B := w1.heap.size) (by omega) (fun q e => (HS.out q e).1)))
            have HDa := Lib.hid hDa
            have hkh : ki < hs2'.length := by rw [HRa.out.len]; omega
            have hkr : ki < rows2.length := by omega
            have hrk : rows2[ki] = d.row ki := by
              have := Hz.out ki hkim
              rw [List.getElem?_eq_getElem hkr] at this
              exact Option.some.inj this
            have hrl : rows2[ki].length ≤ 1000 := by
              rw [hrk]
              have hw : ki < d.writes.length := by rw [HK.out.lenW]; exact hkim
              have hf := HK.out.few _ (List.getElem_mem hw)
              simp only [Dk.row, List.length_cons, List.getD, List.getElem?_eq_getElem hw, Option.getD_some]
              omega
            have hB2 : Below wa.heap.size wa (wa.drew.alloc (.cells #[sV b] 9)) := ((Only.drew (A := fun _ => False) wa).trans (Only.alloc wa.drew _)).below (Nat.le_refl _) (fun _ h => h.elim)
            have hap := HRa.out.appd ki hkh hkr (by rw [hrk]; simp [Dk.row]) hrl hB2 b wa.drew.heap.size 1 ((Blk.new wa.drew [sV b] 9 rfl).cells 0 (sV b) rfl)
            rw [hrk] at hap
            have hbrun : (Instr.buildSlice 29 1 #[(0, .string ⟨b.toArray⟩)]).run Try.prog wa.drew = .ok (.slice (some ⟨wa.drew.heap.size, 0, none⟩) 1 1) (wa.drew.alloc (.cells #[sV b] 9)) := by
              rw [show sV b = .string ⟨b.toArray⟩ from rfl]
              go_simp
            obtain ⟨vp, vn, vc, w4, hrun, hO4, c4, f4, hs4, hR4⟩ := hap
            have hown := HRa.out.mine ki hkh
            have hTl := HT.out
            have hmT : ∀ g, hs2'[ki].ownBlock = some g → T g := fun g hg => (hown g hg).1
            have htb : T w2.heap.size := HRa.out.tb
            have hbk : ¬ T wr.heap.size := fun e => Nat.lt_irrefl _ (hTl _ e).2
            have hc0 := HRa.out.hb.cells ki hs2'[ki] (List.getElem?_eq_getElem hkh)
            rw [Nat.zero_add] at hc0
            have hc1 : (wa.drew.alloc (.cells #[sV b] 9)).cell? ⟨w2.heap.size, ki, none⟩ = some hs2'[ki] := (World.cell?_of_block (hB2.block _ HRa.out.hb.lt)).trans hc0
            have hc2 : (wa.alloc (.cells #[sV b] 9)).cell? ⟨w2.heap.size, ki, none⟩ = some hs2'[ki] := hc1
            replace hc0 : wa.drew.cell? ⟨w2.heap.size, ki, none⟩ = some hs2'[ki] := hc0
            have HR4 := Lib.hid hR4
            have HO4 : Hid (Only T wa (w4.setCell ⟨w2.heap.size, ki, none⟩ (.slice vp vn vc))) := Lib.hid ((hO4.mono (fun q _ e => hmT q e)).trans (Only.setCell (A := T) w4 (p := ⟨w2.heap.size, ki, none⟩) htb (.slice vp vn vc)))
            have hOb : Only T wa (wa.drew.alloc (.cells #[sV b] 9)) := Below.only hB2
            have hO4' : Only T wa w4 := hO4.mono (fun q _ e => hmT q e)
            clear hOa hDa HDf HBf HRf Hbf hba hR4 hown hO4
            generalize hs2'[ki] = hd at *
            clear hmT
            go_wp2_with fail
            refine wp_calm ?_
            refine wp_region_held_drew (S := fun w' => Only T wa w') (by kernel_rfl) (Only.drew wa) (fun hHeld => ?_)
            refine wpAnyH_take (i := 0) (v := .slice (some ⟨w2.heap.size, 0, none⟩) m m) rfl (by kernel_rfl) (by kernel_rfl) (by kernel_rfl) (fun _ _ _ h => h) (Or.inl ⟨by rfl, ?_⟩) hHeld ?_
            · intro w' hSw; go_simp
            try simp only [Act.put, List.getElem_toArray, List.getElem_cons_succ, List.getElem_cons_zero, List.setIfInBounds_toArray, List.set_cons_zero, List.set_cons_succ]
            refine wpAnyH_take (i := 1) (v := .int .i64 ki) rfl (by kernel_rfl) (by kernel_rfl) (by kernel_rfl) (fun _ _ _ h => h) (Or.inl ⟨by rfl, ?_⟩) hHeld ?_
            · intro w' hSw; go_simp
            try simp only [Act.put, List.getElem_toArray, List.getElem_cons_succ, List.getElem_cons_zero, List.setIfInBounds_toArray, List.set_cons_zero, List.set_cons_succ]
            refine wpAnyH_take (i := 2) (v := .slice (some ⟨w2.heap.size, 0, none⟩) m m) rfl (by kernel_rfl) (by kernel_rfl) (by kernel_rfl) (fun _ _ _ h => h) (Or.inl ⟨by rfl, ?_⟩) hHeld ?_
            · intro w' hSw; go_simp
            try simp only [Act.put, List.getElem_toArray, List.getElem_cons_succ, List.getElem_cons_zero, List.setIfInBounds_toArray, List.set_cons_zero, List.set_cons_succ]
            refine wpAnyH_take (i := 3) (v := .int .i64 ki) rfl (by kernel_rfl) (by kernel_rfl) (by kernel_rfl) (fun _ _ _ h => h) (Or.inl ⟨by rfl, ?_⟩) hHeld ?_
            · intro w' hSw; go_simp
            try simp only [Act.put, List.getElem_toArray, List.getElem_cons_succ, List.getElem_cons_zero, List.setIfInBounds_toArray, List.set_cons_zero, List.set_cons_succ]
            refine wpAnyH_take (i := 4) (v := .pointer (some ⟨w2.heap.size, ki, none⟩)) rfl (by kernel_rfl) (by kernel_rfl) (by kernel_rfl) (fun _ _ _ h => h) (Or.inl ⟨by rfl, ?_⟩) hHeld ?_
            · intro w' hSw; go_simp
            try simp only [Act.put, List.getElem_toArray, List.getElem_cons_succ, List.getElem_cons_zero, List.setIfInBounds_toArray, List.set_cons_zero, List.set_cons_succ]
            refine wpAnyH_take (i := 6) (v := .slice (some ⟨wr.heap.size, 0, none⟩) 128 128) rfl (by kernel_rfl) (by kernel_rfl) (by kernel_rfl) (fun _ _ _ h => h) (Or.inl ⟨by rfl, ?_⟩) hHeld ?_
            · intro w' hSw; go_simp
            try simp only [Act.put, List.getElem_toArray, List.getElem_cons_succ, List.getElem_cons_zero, List.setIfInBounds_toArray, List.set_cons_zero, List.set_cons_succ]
            refine wpAnyH_take (i := 7) (v := .string ⟨b.toArray⟩) rfl (by kernel_rfl) (by kernel_rfl) (by kernel_rfl) (fun _ _ _ h => h) (Or.inl ⟨by rfl, ?_⟩) hHeld ?_
            · intro w' hSw; have hcw := hcb w' (hSw.block _ (by omega) hbk); clear hc0 hc1 c4; go_simp
            try simp only [Act.put, List.getElem_toArray, List.getElem_cons_succ, List.getElem_cons_zero, List.setIfInBounds_toArray, List.set_cons_zero, List.set_cons_succ]
            refine wpAnyH_ready (rs := [5, 8]) (by kernel_rfl) (by simp) ?_
            refine allVal (v := hd) (w' := wa.drew) rfl (by kernel_rfl) ?_ (Only.drew wa) ?_ ?_
            · go_simp
            · try simp only [Act.put, List.getElem_toArray, List.getElem_cons_succ, List.getElem_cons_zero, List.setIfInBounds_toArray, List.set_cons_zero, List.set_cons_succ]
              refine wpAnyH_ready (rs := [8]) (by kernel_rfl) (by simp) ?_
              refine allVal rfl (by kernel_rfl) (execBuild hbrun rfl (by kernel_rfl)) hOb ?_ AllReadyH.nil
              try simp only [Act.put, List.getElem_toArray, List.getElem_cons_succ, List.getElem_cons_zero, List.setIfInBounds_toArray, List.set_cons_zero, List.set_cons_succ]
              refine wpAnyH_ready (rs := [9]) (by kernel_rfl) (by simp) ?_
              refine allVal rfl (by kernel_rfl) (execApp hrun rfl (by kernel_rfl) (by kernel_rfl)) hO4' ?_ AllReadyH.nil
              try simp only [Act.put, List.getElem_toArray, List.getElem_cons_succ, List.getElem_cons_zero, List.setIfInBounds_toArray, List.set_cons_zero, List.set_cons_succ]
              refine wpAnyH_ready (rs := [10]) (by kernel_rfl) (by simp) ?_
              refine allVal (v := .pointer (some ⟨w2.heap.size, ki, none⟩)) (w' := w4) rfl (by kernel_rfl) ?_ hO4' ?_ AllReadyH.nil
              · go_simp
              try simp only [Act.put, List.getElem_toArray, List.getElem_cons_succ, List.getElem_cons_zero, List.setIfInBounds_toArray, List.set_cons_zero, List.set_cons_succ]
              refine wpAnyH_ready (rs := [11]) (by kernel_rfl) (by simp) ?_
              refine allSkip (w' := w4.setCell ⟨w2.heap.size, ki, none⟩ (.slice vp vn vc)) rfl (by kernel_rfl) ?_ HO4.out ?_ AllReadyH.nil
              · go_simp
              try simp only [Act.put, List.getElem_toArray, List.getElem_cons_succ, List.getElem_cons_zero, List.setIfInBounds_toArray, List.set_cons_zero, List.set_cons_succ]
              refine wpAnyH_done (by kernel_rfl) (calm_normal ?_) _
              go_wp2_with fail
              go_roundw
              case rel => exact ⟨k2 + 1, d.wr ki b, _, _, (fun q => S q ∨ wf.heap.size ≤ q ∧ q < wa.heap.size), (fun q => T q ∨ wa.heap.size ≤ q ∧ q < w4.heap.size), by omega, by go_num, HBa.out.trans (HO4.out.below (B := w1.heap.size) (by omega) (fun q e => (hTl q e).1)),
                fun q hq => by
                  have hz := HO4.out.size
                  rcases hq with hq | hq
                  · have := HS.out q hq; exact ⟨this.1, by omega⟩
                  · have h1 := hq.1; have h2 := hq.2; exact ⟨by omega, by omega⟩,
                fun q hq => by
                  have hz : (w4.setCell ⟨w2.heap.size, ki, none⟩ (.slice vp vn vc)).heap.size = w4.heap.size := by simp [World.setCell]
                  rw [hz]
                  rcases hq with hq | hq
                  · have := hTl q hq; exact ⟨this.1, by omega⟩
                  · have h1 := hq.1; have h2 := hq.2; exact ⟨by omega, h2⟩,
                fun q hq ht => by
                  rcases hq with hq | hq
                  · rcases ht with ht | ht
                    · exact HST.out q hq ht
                    · have h1 := (HS.out q hq).2; have h2 := ht.1; omega
                  · rcases ht with ht | ht
                    · have h1 := (hTl q ht).2; have h2 := hq.1; omega
                    · have h1 := hq.2; have h2 := ht.1; omega,
                HDa.out.keep (fun q hq hq2 => HO4.out.block q hq2 (fun e => by
                  rcases hq with hq | hq
                  · exact HST.out q hq e
                  · have h1 := (hTl q e).2; have h2 := hq.1; omega)) (fun _ h => h), (HK.out.wr ki hkim b).mono (by omega), HR4.out, by rw [List.length_set]; exact hl, fun i hi => by
                rw [row_wr HK.out.lenW ki i hkim b, List.getElem?_set]
                by_cases e : i = ki
                · rw [if_pos e.symm, if_pos hkr, if_pos e]
                · rw [if_neg (Ne.symm e), if_neg e]; exact Hz.out i hi⟩
              case measure => simp [intOf]; omega
            · refine allVal rfl (by kernel_rfl) (execBuild hbrun rfl (by kernel_rfl)) hOb ?_ AllReadyH.nil
              try simp only [Act.put, List.getElem_toArray, List.getElem_cons_succ, List.getElem_cons_zero, List.setIfInBounds_toArray, List.set_cons_zero, List.set_cons_succ]
              refine wpAnyH_ready (rs := [5]) (by kernel_rfl) (by simp) ?_
              refine allVal (v := hd) (w' := wa.drew.alloc (.cells #[sV b] 9)) rfl (by kernel_rfl) ?_ hOb ?_ AllReadyH.nil
              · go_simp
              try simp only [Act.put, List.getElem_toArray, List.getElem_cons_succ, List.getElem_cons_zero, List.setIfInBounds_toArray, List.set_cons_zero, List.set_cons_succ]
              refine wpAnyH_ready (rs := [9]) (by kernel_rfl) (by simp) ?_
              refine allVal rfl (by kernel_rfl) (execApp hrun rfl (by kernel_rfl) (by kernel_rfl)) hO4' ?_ AllReadyH.nil
              try simp only [Act.put, List.getElem_toArray, List.getElem_cons_succ, List.getElem_cons_zero, List.setIfInBounds_toArray, List.set_cons_zero, List.set_cons_succ]
              refine wpAnyH_ready (rs := [10]) (by kernel_rfl) (by simp) ?_
              refine allVal (v := .pointer (some ⟨w2.heap.size, ki, none⟩)) (w' := w4) rfl (by kernel_rfl) ?_ hO4' ?_ AllReadyH.nil
              · go_simp
              try simp only [Act.put, List.getElem_toArray, List.getElem_cons_succ, List.getElem_cons_zero, List.setIfInBounds_toArray, List.set_cons_zero, List.set_cons_succ]
              refine wpAnyH_ready (rs := [11]) (by kernel_rfl) (by simp) ?_
              refine allSkip (w' := w4.setCell ⟨w2.heap.size, ki, none⟩ (.slice vp vn vc)) rfl (by kernel_rfl) ?_ HO4.out ?_ AllReadyH.nil
              · go_simp
              try simp only [Act.put, List.getElem_toArray, List.getElem_cons_succ, List.getElem_cons_zero, List.setIfInBounds_toArray, List.set_cons_zero, List.set_cons_succ]
              refine wpAnyH_done (by kernel_rfl) (calm_normal ?_) _
              go_wp2_with fail
              go_roundw
              case rel => exact ⟨k2 + 1, d.wr ki b, _, _, (fun q => S q ∨ wf.heap.size ≤ q ∧ q < wa.heap.size), (fun q => T q ∨ wa.heap.size ≤ q ∧ q < w4.heap.size), by omega, by go_num, HBa.out.trans (HO4.out.below (B := w1.heap.size) (by omega) (fun q e => (hTl q e).1)),
                fun q hq => by
                  have hz := HO4.out.size
                  rcases hq with hq | hq
                  · have := HS.out q hq; exact ⟨this.1, by omega⟩
                  · have h1 := hq.1; have h2 := hq.2; exact ⟨by omega, by omega⟩,
                fun q hq => by
                  have hz : (w4.setCell ⟨w2.heap.size, ki, none⟩ (.slice vp vn vc)).heap.size = w4.heap.size := by simp [World.setCell]
                  rw [hz]
                  rcases hq with hq | hq
                  · have := hTl q hq; exact ⟨this.1, by omega⟩
                  · have h1 := hq.1; have h2 := hq.2; exact ⟨by omega, h2⟩,
                fun q hq ht => by
                  rcases hq with hq | hq
                  · rcases ht with ht | ht
                    · exact HST.out q hq ht
                    · have h1 := (HS.out q hq).2; have h2 := ht.1; omega
                  · rcases ht with ht | ht
                    · have h1 := (hTl q ht).2; have h2 := hq.1; omega
                    · have h1 := hq.2; have h2 := ht.1; omega,
                HDa.out.keep (fun q hq hq2 => HO4.out.block q hq2 (fun e => by
                  rcases hq with hq | hq
                  · exact HST.out q hq e
                  · have h1 := (hTl q e).2; have h2 := hq.1; omega)) (fun _ h => h), (HK.out.wr ki hkim b).mono (by omega), HR4.out, by rw [List.length_set]; exact hl, fun i hi => by
                rw [row_wr HK.out.lenW ki i hkim b, List.getElem?_set]
                by_cases e : i = ki
                · rw [if_pos e.symm, if_pos hkr, if_pos e]
                · rw [if_neg (Ne.symm e), if_neg e]; exact Hz.out i hi⟩
              case measure => simp [intOf]; omega
        · have hx : DkAt wr S db d := HD.out
          have hcnt : ∀ q ∈ d.writes, q.length ≤ 1000000 := fun q hq => Nat.le_trans (HK.out.few q hq) (by omega)
          have Hcnt := Lib.hid hcnt
          clear hx hcnt
          go_wp2_with fail
          refine Pull_any S db d wr HD.out _ (fun wp hOp hsp hDp => ?_)
          have hdS : ∀ q, q = db → w1.heap.size ≤ q ∧ ¬ T q := fun q e => by
            obtain ⟨sb, wb, ws, h⟩ := HD.out
            subst e
            exact ⟨(HS.out _ h.sd).1, HST.out _ h.sd⟩
          have HBp := Lib.hid (HB.out.trans (hOp.below (B := w1.heap.size) hsx (fun q e => (hdS q e).1)))
          have HRp := Lib.hid (HRw.out.keep (w' := wp) (T' := T) (fun q hq hlt => hOp.block q hlt (fun e => (hdS q e).2 hq)) (fun _ h => h))
          have HDp := Lib.hid hDp
          have HSp : Hid (∀ q, S q → w1.heap.size ≤ q ∧ q < wp.heap.size) := Lib.hid (fun q hq => by rw [hsp]; exact HS.out q hq)
          have HTp : Hid (∀ q, T q → w1.heap.size ≤ q ∧ q < wp.heap.size) := Lib.hid (fun q hq => by rw [hsp]; exact HT.out q hq)
          have hlens : Hid (∀ i, i < m → ∀ s ∈ d.row i, s.length = 128) := Lib.hid (fun i hi => row_lens HD.out i (by rw [HK.out.len]; exact hi))
          have hfp := Hf1.out.below HBp.out (by omega)
          obtain ⟨cf1, cf2, cf3⟩ := hfp.cells.c3
          have hkp1 := Lib.hid (Sl.below (Sl.below Hkp.out (flat_loc _) HB1.out hhi) (flat_loc _) HBp.out (by omega))
          have hspx : w1.heap.size ≤ wp.heap.size := by omega
          clear hOp hDp hdS HD HB HRw HS HT hfp hsp
          go_wp2_with fail
          obtain ⟨dp, edp⟩ : ∃ dp : Dk, dp = ⟨d.safe, d.writes, d.fuse, true, d.ops⟩ := ⟨_, rfl⟩
          have hdown : dp.down = true := by rw [edp]
          have hdlen : dp.safe.length = m := by rw [edp]; exact HK.out.len
          have hlens2 : Hid (∀ i, i < m → ∀ s ∈ dp.row i, s.length = 128) := Lib.hid (by rw [edp]; exact hlens.out)
          have HZp : Hid (∀ j, j < m → rows2[j]? = some (dp.row j)) := Lib.hid (by rw [edp]; exact Hz.out)
          rw [← edp] at HDp
          have hcn2 : ∀ q ∈ dp.writes, q.length ≤ 1000000 := by rw [edp]; exact Hcnt.out
          clear edp hlens HK Hz Hcnt
          refine Up_any S lo hi db dp _ keep tn at' wp HDp.out (fun q hq => (HSp.out q hq).2) hkp1.out (by omega) (fun q hq => .inr (by have := (HSp.out q hq).1; omega)) hcn2 _ (fun e => absurd (hdown.symm.trans e) (by decide)) (fun _ wu hOu hDu => ?_)
          have hsu := hOu.size
          have HBu := Lib.hid (HBp.out.trans (hOu.below (B := w1.heap.size) (by omega) (fun q e => (HSp.out q e).1)))
          have HRu := Lib.hid (HRp.out.keep (w' := wu) (T' := T) (fun q hq hlt => hOu.block q hlt (fun e => HST.out q e hq)) (fun _ h => h))
          have HDu := Lib.hid hDu
          have HSu : Hid (∀ q, S q → q < wu.heap.size) := Lib.hid (fun q hq => by have := (HSp.out q hq).2; omega)
          have HTu : Hid (∀ q, T q → q < wu.heap.size) := Lib.hid (fun q hq => by have := (HTp.out q hq).2; omega)
          clear hOu hDu HDp HRp HBp HSp HTp cf1 cf2 cf3 hkp1 hcn2 HST Hf1 cf0 Hkp Hc
          go_wp2_with fail
          go_loopw [143, 20] (fun t143 t20 wx => ∃ i c : Nat, i ≤ m ∧ t143 = .int .i64 i ∧ t20 = .int .i64 c ∧ c ≤ 1 ∧ Below wu.heap.size wu wx ∧ (c = 1 → ∃ j, j < i ∧ (cnt dp j : Int) = tn ∧ dp.writes.getD j [] ≠ [])) (fun t143 _ _ => m - (intOf t143).toNat)
          case atStart => exact ⟨0, 0, Nat.zero_le _, rfl, rfl, Nat.zero_le _, Below.refl _ _, fun e => by omega⟩
          case round =>
            obtain ⟨i, c, hi3, rfl, rfl, hc1, hB, hcc⟩ := hrel
            have HB := Lib.hid hB
            have Hcc := Lib.hid hcc
            have hsx := hB.size
            clear hB hcc
            by_cases him : i < m
            · have HDx := Lib.hid (HDu.out.keep (w' := wr) (S' := S) (fun q hq hlt => HB.out.block q hlt) (fun _ h => h))
              go_wp2_with fail
              refine Read_any S wr.heap.size db _ i wr (Nat.le_refl _) HDx.out _ (fun e => absurd ?_ e) (fun wz vz _ hBz hoz => ?_)
              · simp only [upE, Dk.upTo_len, hdlen, Bool.false_eq_true, if_false]
                rw [if_neg (by omega)]
              rw [Int.toNat_natCast, upd_last dp _ _ _ _ i (by rw [hdlen]; exact him)] at hoz
              have hfl := fate_length dp keep tn at' i (hlens2.out i him)
              have hfr := fate_row dp keep tn at' i (hlens2.out i him)
              generalize fate dp keep tn at' i = b at *
              have hby := hoz.bytes
              have HBz := Lib.hid (HB.out.trans (hBz.mono hsx))
              have HRz := Lib.hid ((HRu.out.keep (w' := wr) (T' := T) (fun q hq hlt => HB.out.block q hlt) (fun _ h => h)).keep (w' := wz) (T' := T) (fun q hq hlt => hBz.block q hlt) (fun _ h => h))
              have hsz := hBz.size
              obtain ⟨vo, vcap, rfl, vq1, vq2, -, -⟩ := hby.form
              rw [hfl] at vq1
              have hby := Lib.hid hby
              have hih : i < hs2'.length := by rw [HRz.out.len]; omega
              have hir : i < rows2.length := by omega
              have hrow : rows2[i] = dp.row i := by
                have := HZp.out i him
                rw [List.getElem?_eq_getElem hir] at this
                exact Option.some.inj this
              have hro := (HRz.out.row i hih hir).own (by rw [hrow]; simp [Dk.row])
              rw [hrow] at hro
              have hrn : 1 ≤ (dp.row i).length := by simp [Dk.row]
              have hrl := hlens2.out i him
              obtain ⟨row, hrw⟩ : ∃ row, row = dp.row i := ⟨_, rfl⟩
              rw [← hrw] at hfr hro hrn hrl
              obtain ⟨g, o, cp, ev, hcap, hcm⟩ : ∃ g o cp, hs2'[i] = .slice (some ⟨g, o, none⟩) row.length cp ∧ row.length ≤ cp ∧ cp ≤ maxLen := by
                obtain ⟨g, o, cap, cur, hv, -, -, h4, h5, -⟩ := hro
                rw [List.length_map] at hv h4
                exact ⟨g, o, cap, hv, h4, h5⟩
              rw [ev] at hro
              have hglt := (hro.lt g rfl).2
              have chd : wz.cell? ⟨w2.heap.size, i, none⟩ = some (.slice (some ⟨g, o, none⟩) row.length cp) := by
                have := HRz.out.hb.cells i hs2'[i] (List.getElem?_eq_getElem hih)
                rw [Nat.zero_add, ev] at this
                exact this
              have hrlt := HRz.out.hb.lt
              have crow : Hid (∀ k (h : k < row.length), wz.cell? ⟨g, o + k, none⟩ = some (.string ⟨row[k].toArray⟩)) := Lib.hid (fun k h => hro.cells.1 k _ (by rw [List.getElem?_map, List.getElem?_eq_getElem h]; rfl))
              have Hfr := Lib.hid hfr
              have hmc : maxLen ≤ 9223372036854775807 := by decide
              have hcm2 : row.length ≤ 9223372036854775807 := by omega
              clear HRz hro hrow hfr hoz hBz HB HDx hrw
              have i0 : (0 : Int) ≤ (i : Int) := by omega
              have im : (i : Int) < (m : Int) := by omega
              rw [hfl]
              go_wp2_with fail
              go_loopw [164, 24] (fun t164 t24 wy => ∃ (k : Nat) (v : Bool), k ≤ row.length ∧ t164 = .int .i64 k ∧ t24 = .bool v ∧ Below wz.heap.size wz wy ∧ Met row b k v) (fun t164 _ _ => row.length - (intOf t164).toNat)
              case atStart => exact ⟨0, false, Nat.zero_le _, rfl, rfl, Below.refl _ _, Met.zero row b⟩
              case round =>
                obtain ⟨k, v, hk, rfl, rfl, hB, hv⟩ := hrel
                have Hv := Lib.hid hv
                have chd' := (World.cell?_of_block (hB.block _ hrlt)).trans chd
                have hby' := Sl.below hby.out (flat_loc _) hB (Nat.le_refl _)
                have hcv := str hby'
                have hcvd := fun q => str (Sl.below hby' (flat_loc _) (drewN (Below.refl wr.heap.size wr) q) hB.size)
                rw [hfl] at hcv hcvd
                have HB := Lib.hid hB
                clear hv hby'
                by_cases hkr : k < row.length
                · have ck := (World.cell?_of_block (hB.block _ hglt)).trans (crow.out k hkr)
                  clear hB chd
                  have Hget : Hid (row[k]? = some row[k]) := Lib.hid (List.getElem?_eq_getElem hkr)
                  generalize row[k] = s at *
                  have k0 : (0 : Int) ≤ (k : Int) := by omega
                  have km : (k : Int) < (row.length : Int) := by omega
                  cases v with
                  | true =>
                    go_wp2_with fail
                    go_quiet (fail)
                    go_wp2_with fail
                    go_roundw
                    case rel => exact ⟨k + 1, true, by omega, by go_num, rfl, drewN HB.out _, Hv.out.keep⟩
                    case measure => simp [intOf]; omega
                  | false =>
                    go_wp2_with fail
                    go_quiet (fail)
                    go_wp2_with fail
                    go_roundw
                    case rel => exact ⟨k + 1, s == b, by omega, by go_num, rfl, drewN HB.out _, Hv.out.step Hget.out⟩
                    case measure => simp [intOf]; omega
                · clear chd hcv hcvd
                  cases v with
                  | true =>
                    have HBo := Lib.hid (HBz.out.trans (hB.mono (by omega)))
                    clear hB HBz HB
                    go_wp2_with fail
                    go_roundw
                    case rel => exact ⟨i + 1, c, by omega, by go_num, rfl, hc1, HBo.out, fun e => by obtain ⟨j, hj, e1⟩ := Hcc.out e; exact ⟨j, by omega, e1⟩⟩
                    case measure => simp [intOf]; omega
                  | false =>
                    have hbn : b ∉ row := Hv.out.none (by omega)
                    obtain ⟨htn, hwn, kk, hk1, hk2, htk, hdk⟩ := Hfr.out.resolve_left hbn
                    have hc0 : c = 0 := by
                      by_cases e : c = 1
                      · obtain ⟨j, hj, e1, e2⟩ := Hcc.out e
                        have := cnt_lt dp j i hj e2
                        omega
                      · omega
                    subst hc0
                    have hby1 := Lib.hid (Sl.below hby.out (flat_loc _) hB (Nat.le_refl _))
                    have crow1 : Hid (∀ k (h : k < row.length), wr.cell? ⟨g, o + k, none⟩ = some (.string ⟨row[k].toArray⟩)) := Lib.hid (fun k h => (World.cell?_of_block (hB.block _ hglt)).trans (crow.out k h))
                    have HBo := Lib.hid (HBz.out.trans (hB.mono (by omega)))
                    have hszq := hB.size
                    have hgl2 : g < wr.heap.size := by omega
                    have hrl2 : w2.heap.size < wr.heap.size := by omega
                    have Htk := Lib.hid htk
                    have Hdk := Lib.hid hdk
                    have Hrl := Lib.hid hrl
                    have Htn : Hid ((cnt dp i : Int) = tn ∧ dp.writes.getD i [] ≠ []) := Lib.hid ⟨htn, hwn⟩
                    clear hB HB HBz hby crow Hfr hrl htk hdk htn hwn hbn Hv
                    generalize wr = wq at *
                    rw [show ((0 : Nat) : Int) = 0 from rfl]
                    go_wp2_with fail
                    go_loopw [26, 24] (fun t26 t24 wy => ∃ (j : Nat) (v : Bool), j + 1 ≤ row.length ∧ t26 = .int .i64 ((j : Int) + 1) ∧ t24 = .bool v ∧ Below wq.heap.size wq wy ∧ Tore v (j + 1 ≤ kk)) (fun t26 _ _ => row.length - (intOf t26).toNat)
                    case atStart => exact ⟨0, false, by omega, rfl, rfl, Below.refl _ _, Tore.no _ (by omega)⟩
                    case round =>
                      obtain ⟨j, v, hj, rfl, rfl, hB, hv⟩ := hrel
                      have Hv := Lib.hid hv
                      have HB := Lib.hid hB
                      have chd2 := (World.cell?_of_block (hB.block _ hrl2)).trans chd'
                      clear hB hv
                      by_cases hjr : j + 1 < row.length
                      · have hjri : (j : Int) + 1 < (row.length : Int) := by omega
                        go_wp2_with fail
                        go_loopw [27, 24] (fun t27 t24 wy => ∃ (a : Nat) (v : Bool), a ≤ 129 ∧ t27 = .int .i64 a ∧ t24 = .bool v ∧ Below wq.heap.size wq wy ∧ Tore v (j + 1 ≤ kk ∧ (j + 1 = kk → a ≤ atN at'))) (fun t27 _ _ => 129 - (intOf t27).toNat)
                        case atStart => exact ⟨0, v, by omega, rfl, rfl, HB.out, Hv.out.map fun h => ⟨h, fun _ => Nat.zero_le _⟩⟩
                        case round =>
                          obtain ⟨a, v, ha, rfl, rfl, hB, hv⟩ := hrel
                          have Hv := Lib.hid hv
                          have chd3 := (World.cell?_of_block (hB.block _ hrl2)).trans chd'
                          have ck := (World.cell?_of_block (hB.block _ hgl2)).trans (crow1.out (j + 1) hjr)
                          have ck0 := (World.cell?_of_block (hB.block _ hgl2)).trans (crow1.out j (by omega))
                          have HBi := Lib.hid hB
                          by_cases ha8 : a ≤ 128
                          · have hszr : wz.heap.size ≤ wr.heap.size := Nat.le_trans hszq hB.size
                            have hbw := Sl.below hby1.out (flat_loc _) hB hszq
                            rw [hfl] at hbw
                            have hpre := Bytes.pre hbw hfl ha8
                            obtain ⟨bb, off, rfl, -, hsuf⟩ := Bytes.suf hbw hfl ha8
                            have hcp := str hpre
                            have hcs := str hsuf
                            have hcpd := fun q => str (Sl.below hpre (flat_loc _) (drewN (Below.refl wr.heap.size wr) q) hszr)
                            have hcsd := fun q => str (Sl.below hsuf (flat_loc _) (drewN (Below.refl wr.heap.size wr) q) hszr)
                            have hl1 : row[j + 1].length = 128 := Hrl.out _ (List.getElem_mem hjr)
                            have hl0 : (row[j]'(by omega)).length = 128 := Hrl.out _ (List.getElem_mem _)
                            have hx1 := extractS row[j + 1] 0 a
                            have hx0 := extractS (row[j]'(by omega)) a 128
                            rw [Nat.sub_zero, List.drop_zero] at hx1
                            rw [List.take_of_length_le (by rw [List.length_drop, hl0]; exact Nat.le_refl _)] at hx0
                            have Hy : Hid (j + 1 = kk → a = atN at' → b.take a = row[j + 1].take a ∧ b.drop a = (row[j]'(by omega)).drop a) := Lib.hid (fun e1 e2 => by
                              subst e1 e2
                              have h1 := Htk.out
                              have h2 := Hdk.out
                              rw [show row.getD (j + 1) [] = row[j + 1] by simp [List.getD, List.getElem?_eq_getElem hjr]] at h1
                              rw [Nat.add_sub_cancel, show row.getD j [] = row[j]'(by omega) by simp [List.getD, List.getElem?_eq_getElem (show j < row.length by omega)]] at h2
                              exact ⟨h1, h2⟩)
                            have hwj := wrap_nat j (by omega)
                            have k0 : (0 : Int) ≤ (j : Int) := by omega
                            have k1 : (0 : Int) ≤ (j : Int) + 1 := by omega
                            have k2 : (j : Int) < (row.length : Int) := by omega
                            have a0 : (0 : Int) ≤ (a : Int) := by omega
                            have a1 : (a : Int) ≤ 128 := by omega
                            have a2 : (a : Int) ≤ (vcap : Int) := by omega
                            rw [hfl] at *
                            generalize row[j + 1] = s1 at *
                            generalize row[j]'_ = s0 at *
                            clear hB hbw hpre hsuf hv chd' chd2
                            cases v with
                            | true =>
                              go_wp2_with fail
                              go_quiet (fail)
                              go_wp2_with fail
                              go_roundw
                              case rel => exact ⟨a + 1, true, by omega, by go_num, rfl, drewN HBi.out _, Tore.yes _⟩
                              case measure => simp [intOf]; omega
                            | false =>
                              cases hb1 : (b.take a == s1.take a)
                              · go_wp2_with fail
                                go_quiet (fail)
                                go_wp2_with fail
                                go_roundw
                                case rel => exact ⟨a + 1, false, by omega, by go_num, rfl, drewN HBi.out _, Tore.no _ ⟨Hv.out.none.1, fun e => by
                                  have h1 := Hv.out.none.2 e
                                  by_cases e2 : a = atN at'
                                  · have h2 := (Hy.out e e2).1
                                    rw [h2, beq_self_eq_true] at hb1
                                    cases hb1
                                  · omega⟩⟩
                                case measure => simp [intOf]; omega
                              · cases hb2 : (b.drop a == s0.drop a)
                                · go_wp2_with fail
                                  go_quiet (fail)
                                  go_wp2_with fail
                                  go_roundw
                                  case rel => exact ⟨a + 1, false, by omega, by go_num, rfl, drewN HBi.out _, Tore.no _ ⟨Hv.out.none.1, fun e => by
                                    have h1 := Hv.out.none.2 e
                                    by_cases e2 : a = atN at'
                                    · have h2 := (Hy.out e e2).2
                                      rw [h2, beq_self_eq_true] at hb2
                                      cases hb2
                                    · omega⟩⟩
                                  case measure => simp [intOf]; omega
                                · go_wp2_with fail
                                  go_quiet (fail)
                                  go_wp2_with fail
                                  go_roundw
                                  case rel => exact ⟨a + 1, true, by omega, by go_num, rfl, drewN HBi.out _, Tore.yes _⟩
                                  case measure => simp [intOf]; omega
                          · have hal : a = 129 := by omega
                            have hat := atN_le at'
                            have ha9 : ¬ ((a : Int) ≤ 128) := by omega
                            clear ck ck0 chd3 chd2 hB hv HB
                            go_wp2_with fail
                            go_roundw
                            case rel => exact ⟨j + 1, v, by omega, by go_num, rfl, HBi.out, Hv.out.map fun h => by
                              have := h.1
                              by_cases e : j + 1 = kk
                              · have := h.2 e; omega
                              · omega⟩
                            case measure => simp [intOf]; omega
                      · have hjq : ¬ ((j : Int) + 1 < (row.length : Int)) := by omega
                        have hvt := Hv.out.got (by omega)
                        subst hvt
                        have HBe := Lib.hid (HBo.out.trans (HB.out.mono (by omega)))
                        clear HB HBo hby1
                        go_wp2_with fail
                        go_roundw
                        case rel => exact ⟨i + 1, 1, by omega, by go_num, rfl, Nat.le_refl _, HBe.out, fun _ => ⟨i, by omega, Htn.out⟩⟩
                        case measure => simp [intOf]; omega
            · have HDx := Lib.hid (HDu.out.keep (w' := wr) (S' := S) (fun q hq hlt => HB.out.block q hlt) (fun _ h => h))
              have c1 : (c : Int) ≤ 1 := by omega
              have HB5 := Lib.hid (HB1.out.trans ((HBu.out.trans (HB.out.mono (by omega))).mono (by omega)))
              have hs5 := HB5.out.size
              clear HRu HDu HB HBu Hcc
              go_wp2_with fail
              refine Down_any S db _ wr HDx.out _ ?_
              go_wp2_with fail
              refine Dirty_any S db _ wr HDx.out _ (fun wd vd hBd hod => ?_)
              rw [dirty_none] at hod
              obtain ⟨dao, dcap, rfl, -, -, -, -⟩ := (Sl.ofOwn (fun _ => rfl) hod : Sl (flat iE) 1 _ _ _ _ _).form
              have hr := HR.out wd (HB5.out.trans (hBd.mono hs5))
              clear hod hBd HDx HB5
              go_wp2_with fail
              first | exact hr | exact fin hr rfl

end Go.Proofs.Ytfmpafheodpfoaa
