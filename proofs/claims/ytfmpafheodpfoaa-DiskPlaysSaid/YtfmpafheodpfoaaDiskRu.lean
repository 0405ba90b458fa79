/- The document's disk: Up. (Printed by diskru.py.) -/
import Derived.Test.YtfmpafheodpfoaaDiskRh
import Derived.Test.YtfmpafheodpfoaaDiskUp2
import Derived.Deep.CutBlock
import Derived.Deep.DeepCutAuto
namespace Go.Proofs.Ytfmpafheodpfoaa
open Go.RowKit
attribute [local go_sem ↓] Go.wp_at_zero Go.wp_at_succ
set_option linter.unusedVariables false
set_option linter.unusedSimpArgs false

theorem flat_iE (l : List Nat) : l.flatMap iE = l.map (fun (i : Nat) => Value.int .i64 (i : Int)) := by
  induction l with
  | nil => rfl
  | cons x r ih => simp [iE, ih]
theorem cat2 (x y : List UInt8) : (ByteArray.mk x.toArray ++ ByteArray.mk y.toArray) = ByteArray.mk (x ++ y).toArray := by
  apply ByteArray.ext
  simp
theorem get_getD {l l' : List (List UInt8)} (h : l = l') {q : Nat} (hq : q < l.length) : l[q] = l'.getD q [] := by
  subst h
  simp [List.getD, List.getElem?_eq_getElem hq]
theorem extractS (s : List UInt8) (a b : Nat) : (ByteArray.mk s.toArray).extract a b = ⟨((s.drop a).take (b - a)).toArray⟩ := by
  apply ByteArray.ext
  simp only [ByteArray.extract, ByteArray.copySlice]
  apply Array.toList_inj.1
  simp
theorem sl_to (s : List UInt8) (A : Nat) (h : A ≤ s.length) (w : World) : (Instr.slice 9 (.string ⟨s.toArray⟩) none (some (.int .i64 (A : Int))) none).run Try.prog w = .ok (.string ⟨(s.take A).toArray⟩) w := by
  rw [run_slice_string_h (P := Try.prog) w 9 ⟨s.toArray⟩ Try.underlying9 .i64 (A : Int) (by omega) (by rw [bsize]; omega), Int.toNat_natCast, extractS]
  simp
theorem sl_from (s : List UInt8) (A : Nat) (h : A ≤ s.length) (w : World) : (Instr.slice 9 (.string ⟨s.toArray⟩) (some (.int .i64 (A : Int))) none none).run Try.prog w = .ok (.string ⟨(s.drop A).toArray⟩) w := by
  rw [run_slice_string_l (P := Try.prog) w 9 ⟨s.toArray⟩ Try.underlying9 .i64 (A : Int) (by omega) (by rw [bsize]; omega), Int.toNat_natCast, extractS, bsize, List.take_of_length_le (by rw [List.length_drop]; exact Nat.le_refl _)]
/-- A byte of a slice, in every world in which the slice's block is as it was. -/
theorem Bytes.at1 {lo hi : Nat} {w : World} {p : Option Addr} {m cap : Nat} {l : List UInt8} (h : Bytes lo hi w (.slice p m cap) l) (n : Nat) (hn : n < l.length) : ∃ b off, p = some ⟨b, off, none⟩ ∧ lo ≤ b ∧ b < hi ∧ ∀ (w' : World), (∀ q, lo ≤ q → q < hi → w'.heap[q]? = w.heap[q]?) → w'.cell? ⟨b, off + n, none⟩ = some (.int .u8 (l[n]).toNat) := by
  obtain ⟨ao, cp, e, -, -, -, hc⟩ := Sl.form h
  injection e with e1 e2 e3
  subst e1
  obtain ⟨b, off, rfl, h1, h2, h3⟩ := hc n hn
  obtain ⟨cs, -, c2, hf⟩ := h3 n hn
  cases hf
  refine ⟨b, off, rfl, h1, h2, fun w' hw => (World.cell?_of_block (hw b h1 h2)).trans ?_⟩
  have := c2.c1
  simpa using this

set_option maxRecDepth 100000 in
set_option maxHeartbeats 8000000 in
theorem UpR_any (S : Nat → Prop) (lo hi rb : Nat) (d : Dk) (kv : Value) (keep : List UInt8) (tn at' : Int) (w : World) (h : RfAt w S rb d) (hS : ∀ k, S k → k < w.heap.size) (hkp : Bytes lo hi w kv keep) (hhi : hi ≤ w.heap.size) (hap : ∀ k, S k → k < lo ∨ hi ≤ k) (hcnt : ∀ l ∈ d.writes, l.length ≤ 1000000) (h128 : ∀ j q, j < d.safe.length → q < (d.writes.getD j []).length + 1 → ((d.safe.getD j [] :: d.writes.getD j []).getD q []).length = 128) (R : Ending → World → Prop)
    (hR0 : d.down = false → R (.returned (.int .i64 2)) w)
    (hR4 : d.down = true → ∀ w', Only S w w' → RfAt w' (fun k => S k ∨ (w.heap.size ≤ k ∧ k < w'.heap.size)) rb ⟨(d.upTo (fate d keep tn at') d.safe.length).safe, (d.upTo (fate d keep tn at') d.safe.length).writes, -1, false, d.ops⟩ → R (.returned (.int .i64 0)) w') :
    Calls Try.prog 42 #[.pointer (some ⟨rb, 0, none⟩), kv, .int .i64 tn, .int .i64 at'] w R := by
  obtain ⟨lb, c, ws, h⟩ := h
  have H := Lib.hid h
  obtain ⟨c0, -, c2, -⟩ := h.hd.cells.c4
  have hcap := h.cap
  have HS := Lib.hid hS
  have hlrw := h.lr
  obtain ⟨ak, ck, rfl, -, -, -, -⟩ := Sl.form hkp
  have HK := Lib.hid hkp
  have HR4 := Lib.hid hR4
  have H128 := Lib.hid h128
  clear h hS hkp hR4 h128
  go_enter Try.func42, Try.ntmps42
  cases hdn : d.down
  · have hr := hR0 hdn
    rw [hdn] at c2
    clear hR0 hdn
    go_wp2_with fail
    all_goals first | exact hr | exact fin hr rfl
  · rw [hdn] at c2
    have HR5 := Lib.hid (HR4.out hdn)
    clear hR0 hdn
    have ha9 := atN_le at'
    go_upto_if 20 with fail
    go_cut [3] from 14 to 98 (fun t3 wx => t3 = .int .i64 (if at' < 0 then 0 else at') ∧ w = wx)
    case first =>
      by_cases h0 : at' < 0
      · go_wp2_with fail
        go_meet
        exact ⟨by rw [if_pos h0], rfl⟩
      · go_wp2_with fail
        go_meet
        exact ⟨by rw [if_neg (by omega)], rfl⟩
    case rest =>
      obtain ⟨rfl, rfl⟩ := hcut
      obtain ⟨a1, ea1⟩ : ∃ a1, a1 = if at' < 0 then 0 else at' := ⟨_, rfl⟩
      rw [← ea1]
      have Ha1 := Lib.hid ea1
      clear ea1
      go_upto_if 22 with fail
      go_cut [3] from 14 to 98 (fun t3 wx => t3 = .int .i64 ((atN at' : Nat) : Int) ∧ w = wx)
      case first =>
        by_cases h1 : 128 < a1
        · have e : ((atN at' : Nat) : Int) = 128 := by have := Ha1.out; simp only [atN]; split at this <;> omega
          go_wp2_with fail
          go_meet
          exact ⟨by rw [e], rfl⟩
        · have e : ((atN at' : Nat) : Int) = a1 := by have := Ha1.out; simp only [atN]; split at this <;> omega
          go_wp2_with fail
          go_meet
          exact ⟨by rw [e], rfl⟩
      case rest =>
        obtain ⟨rfl, rfl⟩ := hcut
        have HA : Hid (∀ a b : List UInt8, tornP a b at' = a.take (atN at') ++ b.drop (atN at')) := Lib.hid (fun a b => rfl)
        generalize atN at' = A at *
        go_wp2_with fail
        refine DirtyR_any S rb d w ⟨lb, c, ws, H.out⟩ hcnt _ (fun w1 v9 hB1 ho9 => ?_)
        obtain ⟨ld, eld⟩ : ∃ ld, ld = dirtyTo d d.safe.length := ⟨_, rfl⟩
        rw [← eld] at ho9
        have Held := Lib.hid eld
        obtain ⟨p9, c9, rfl⟩ := Own.slice ho9
        obtain ⟨f, ef⟩ : ∃ f, f = fate d keep tn at' := ⟨_, rfl⟩
        have Hef := Lib.hid ef
        have Hfc : Hid (∀ j, d.writes.getD j [] = [] → f j = d.safe.getD j []) := Lib.hid (fun j hj => by rw [ef]; exact fate_clean d keep tn at' j hj)
        have h1 := H.out.keep (w' := w1) (S' := S) (fun k _ hk => hB1.block k hk) (fun _ e => e)
        have h10 : RfIn w1 S rb lb c ws (d.upTo f 0) := by rw [Dk.upTo_zero d f hlrw]; exact h1
        have H10 := Lib.hid h10
        have Ho9 := Lib.hid ho9
        have HB1 := Lib.hid hB1.size
        have HBo := Lib.hid (show Only S w w1 from Below.only hB1)
        replace HK := Lib.hid (Sl.below HK.out (flat_loc _) hB1 hhi)
        clear eld ef h1 h10 ho9 hB1 hlrw Ha1
        go_wp2_with fail
        go_loopw [10] (fun t10 wr => ∃ (n i : Nat) (ws' : List Value), i ≤ d.safe.length ∧ t10 = .int .i64 (n : Int) ∧ n = cnt d i ∧ Only S w1 wr ∧ RfIn wr (fun k => S k ∨ (w1.heap.size ≤ k ∧ k < wr.heap.size)) rb lb c ws' (d.upTo f i)) (fun t10 _ => ld.length - (intOf t10).toNat)
        case atStart => exact ⟨0, 0, ws, Nat.zero_le _, rfl, rfl, Only.refl _ _, H10.out.keep (fun _ _ _ => rfl) (fun _ e => .inl e)⟩
        case round =>
          obtain ⟨n, i, ws', hi1, rfl, hn, hOr, hr⟩ := hrel
          have HOr := Lib.hid hOr
          have Hr := Lib.hid hr
          have hsl : (d.upTo f i).safe.length = d.safe.length := Dk.upTo_len _ _ _
          have Hhd := Lib.hid (show Blk wr rb [.slice (some ⟨lb, 0, none⟩) d.safe.length c, .int .i64 (d.upTo f i).fuse, .bool (d.upTo f i).down, .int .i64 (d.upTo f i).ops] 49 by have := hr.hd; rw [hsl] at this; exact this)
          have c0 := Hhd.out.cells.c4.1
          have n0 : (0 : Int) ≤ (n : Int) := by omega
          have h9 : OwnI w.heap.size wr (.slice p9 ld.length c9) ld := Own.same Ho9.out (fun q e => hOr.block q (Own.lt Ho9.out q e).2 (fun e2 => by have := HS.out q e2; have := (Own.lt Ho9.out q e).1; omega))
          clear hOr hr
          by_cases hnl : n < ld.length
          · have nl : (n : Int) < (ld.length : Int) := by omega
            obtain ⟨j, hj1, hj2, hj3, hj4⟩ := dirty_at d d.safe.length n (by rw [← dirty_len, ← Held.out]; exact hnl)
            rw [← Held.out] at hj4
            have hij : i ≤ j := cnt_between d (by rw [hj3, hn]) hj2
            have hup : d.upTo f j = d.upTo f i := upTo_skips d f Hfc.out i j hij (by rw [hj3, hn])
            have Hrj := Lib.hid (show RfIn wr (fun k => S k ∨ (w1.heap.size ≤ k ∧ k < wr.heap.size)) rb lb c ws' (d.upTo f j) by rw [hup]; exact Hr.out)
            obtain ⟨g9, cap9, e9, hg9b, hg9w, -, -, hcs9, -⟩ := Own.form h9 (fun e => by rw [e] at hnl; exact absurd hnl (Nat.not_lt_zero _))
            injection e9 with e9 _ e9'
            subst e9 e9'
            have y9 : wr.cell? ⟨g9, n, none⟩ = some (.int .i64 (j : Int)) := by
              have := hcs9 n (.int .i64 (j : Int)) (by rw [flat_iE, List.getElem?_map, hj4]; rfl)
              simpa using this
            obtain ⟨g, c1, x0, x1, x2, hSg, hgr, hgl, hg2, hog, hcs⟩ := Hrj.out.at j (by rw [Dk.upTo_len]; exact hj1)
            have hwm : (d.upTo f j).writes.getD j [] = d.writes.getD j [] := (d.upTo_w f j).resolve_right (by omega)
            have hsm : (d.upTo f j).safe.getD j [] = d.safe.getD j [] := d.upTo_s f j hj1
            rw [hwm] at x0 x1
            have hrow : ((d.upTo f j).safe.getD j [] :: (d.upTo f j).writes.getD j []) = (d.safe.getD j [] :: d.writes.getD j []) := by rw [hwm, hsm]
            have Hcs : Hid (∀ q (hq : q < (d.safe.getD j [] :: d.writes.getD j []).length), wr.cell? ⟨g, q, none⟩ = some (sV ((d.safe.getD j [] :: d.writes.getD j []).getD q []))) := Lib.hid (fun q hq => by
              rw [hcs q (by rw [hrow]; exact hq), get_getD hrow])
            have hlb := Hrj.out.lt.2
            have hrb := Hrj.out.lt.1
            have hm : (d.writes.getD j []).length ≤ 1000000 := by
              by_cases hnw : j < d.writes.length
              · exact hcnt _ (by simp [List.getD, List.getElem?_eq_getElem hnw])
              · simp [List.getD, List.getElem?_eq_none (Nat.not_lt.1 hnw)]
            have hfd := fate_dirty d keep tn at' j hj2
            rw [hj3] at hfd
            have Hfd := Lib.hid hfd
            have Hst := Lib.hid (Dk.upTo_step d f j)
            have Hcn := Lib.hid (show cnt d (j + 1) = n + 1 by rw [cnt_hit d j hj2, hj3])
            have Hj1 := Lib.hid hj1
            have hlen : (d.safe.getD j [] :: d.writes.getD j []).length = (d.writes.getD j []).length + 1 := rfl
            have Hlen := Lib.hid hlen
            have Hg9w := Lib.hid hg9w
            have Hg9l : Hid (¬ g9 = lb) := Lib.hid (fun e => by have := HS.out lb H.out.sl; omega)
            have Hrl : Hid (¬ rb = lb) := Lib.hid H.out.rl
            have j0 : (0 : Int) ≤ (j : Int) := by omega
            have jl : (j : Int) < (d.safe.length : Int) := by omega
            generalize hmm : (d.writes.getD j []).length = m at *
            have Hmm := Lib.hid hmm
            clear hn hj2 hj3 hj4 hup hog hcs hwm hsm hrow hfd hlen hcs9 hmm
            go_wp2_with fail
            refine wp_region_held_drew (S := fun w' => w' = wr.drew) (by kernel_rfl) rfl (fun hHeld => ?_)
            refine wpAnyH_take (i := 0) (v := .pointer (some ⟨rb, 0, none⟩)) rfl (by kernel_rfl) (by kernel_rfl) (by kernel_rfl) (fun _ _ _ h => h) (Or.inl ⟨by rfl, ?_⟩) hHeld ?_
            · intro w' hSw; subst hSw; go_simp
            try simp only [Act.put, List.getElem_toArray, List.getElem_cons_succ, List.getElem_cons_zero, List.setIfInBounds_toArray, List.set_cons_zero, List.set_cons_succ]
            refine wpAnyH_take (i := 1) (v := .pointer (some ⟨rb, 0, none⟩)) rfl (by kernel_rfl) (by kernel_rfl) (by kernel_rfl) (fun _ _ _ h => h) (Or.inl ⟨by rfl, ?_⟩) hHeld ?_
            · intro w' hSw; subst hSw; go_simp
            try simp only [Act.put, List.getElem_toArray, List.getElem_cons_succ, List.getElem_cons_zero, List.setIfInBounds_toArray, List.set_cons_zero, List.set_cons_succ]
            refine wpAnyH_take (i := 2) (v := .pointer (some ⟨rb, 0, none⟩)) rfl (by kernel_rfl) (by kernel_rfl) (by kernel_rfl) (fun _ _ _ h => h) (Or.inl ⟨by rfl, ?_⟩) hHeld ?_
            · intro w' hSw; subst hSw; go_simp
            try simp only [Act.put, List.getElem_toArray, List.getElem_cons_succ, List.getElem_cons_zero, List.setIfInBounds_toArray, List.set_cons_zero, List.set_cons_succ]
            refine wpAnyH_take (i := 3) (v := .slice (some ⟨lb, 0, none⟩) d.safe.length c) rfl (by kernel_rfl) (by kernel_rfl) (by kernel_rfl) (fun _ _ _ h => h) (Or.inl ⟨by rfl, ?_⟩) hHeld ?_
            · intro w' hSw; subst hSw; go_simp
            try simp only [Act.put, List.getElem_toArray, List.getElem_cons_succ, List.getElem_cons_zero, List.setIfInBounds_toArray, List.set_cons_zero, List.set_cons_succ]
            refine wpAnyH_take (i := 4) (v := .slice (some ⟨g9, 0, none⟩) ld.length c9) rfl (by kernel_rfl) (by kernel_rfl) (by kernel_rfl) (fun _ _ _ h => h) (Or.inl ⟨by rfl, ?_⟩) hHeld ?_
            · intro w' hSw; subst hSw; go_simp
            try simp only [Act.put, List.getElem_toArray, List.getElem_cons_succ, List.getElem_cons_zero, List.setIfInBounds_toArray, List.set_cons_zero, List.set_cons_succ]
            refine wpAnyH_take (i := 5) (v := .int .i64 ((n : Int))) rfl (by kernel_rfl) (by kernel_rfl) (by kernel_rfl) (fun _ _ _ h => h) (Or.inl ⟨by rfl, ?_⟩) hHeld ?_
            · intro w' hSw; subst hSw; go_simp
            try simp only [Act.put, List.getElem_toArray, List.getElem_cons_succ, List.getElem_cons_zero, List.setIfInBounds_toArray, List.set_cons_zero, List.set_cons_succ]
            refine wpAnyH_take (i := 6) (v := .pointer (some ⟨g9, n, none⟩)) rfl (by kernel_rfl) (by kernel_rfl) (by kernel_rfl) (fun _ _ _ h => h) (Or.inl ⟨by rfl, ?_⟩) hHeld ?_
            · intro w' hSw; subst hSw; go_simp
            try simp only [Act.put, List.getElem_toArray, List.getElem_cons_succ, List.getElem_cons_zero, List.setIfInBounds_toArray, List.set_cons_zero, List.set_cons_succ]
            refine wpAnyH_take (i := 7) (v := .int .i64 ((j : Int))) rfl (by kernel_rfl) (by kernel_rfl) (by kernel_rfl) (fun _ _ _ h => h) (Or.inl ⟨by rfl, ?_⟩) hHeld ?_
            · intro w' hSw; subst hSw; go_simp
            try simp only [Act.put, List.getElem_toArray, List.getElem_cons_succ, List.getElem_cons_zero, List.setIfInBounds_toArray, List.set_cons_zero, List.set_cons_succ]
            refine wpAnyH_take (i := 8) (v := .pointer (some ⟨lb, j, none⟩)) rfl (by kernel_rfl) (by kernel_rfl) (by kernel_rfl) (fun _ _ _ h => h) (Or.inl ⟨by rfl, ?_⟩) hHeld ?_
            · intro w' hSw; subst hSw; go_simp
            try simp only [Act.put, List.getElem_toArray, List.getElem_cons_succ, List.getElem_cons_zero, List.setIfInBounds_toArray, List.set_cons_zero, List.set_cons_succ]
            refine wpAnyH_take (i := 9) (v := .slice (some ⟨g, 0, none⟩) (m + 1) c1) rfl (by kernel_rfl) (by kernel_rfl) (by kernel_rfl) (fun _ _ _ h => h) (Or.inl ⟨by rfl, ?_⟩) hHeld ?_
            · intro w' hSw; subst hSw; go_simp
            try simp only [Act.put, List.getElem_toArray, List.getElem_cons_succ, List.getElem_cons_zero, List.setIfInBounds_toArray, List.set_cons_zero, List.set_cons_succ]
            refine wpAnyH_take (i := 10) (v := .slice (some ⟨g, 0, none⟩) (m + 1) c1) rfl (by kernel_rfl) (by kernel_rfl) (by kernel_rfl) (fun _ _ _ h => h) (Or.inl ⟨by rfl, ?_⟩) hHeld ?_
            · intro w' hSw; subst hSw; go_simp
            try simp only [Act.put, List.getElem_toArray, List.getElem_cons_succ, List.getElem_cons_zero, List.setIfInBounds_toArray, List.set_cons_zero, List.set_cons_succ]
            refine wpAnyH_done (by kernel_rfl) ?_ _
            clear hHeld
            go_upto_if 44 with fail
            go_cut [12] from 25 to 92 (fun t12 wx => t12 = .int .i64 (((if n < keep.length then (keep.getD n 0).toNat else 0 : Nat) : Nat) : Int) ∧ wr.drew = wx)
            case first =>
              by_cases hk : n < keep.length
              · have kl : (n : Int) < (keep.length : Int) := by omega
                obtain ⟨bk, ok, ek, kk1, kk2, kc⟩ := Bytes.at1 HK.out n hk
                have hbk : bk < wr.heap.size := by have := HOr.out.size; have := HB1.out; omega
                have zk := kc wr (fun q hq hq2 => HOr.out.block q (by have := HB1.out; omega) (fun e => by have := hap q e; omega))
                subst ek
                have hgk : keep.getD n 0 = keep[n] := by simp [List.getD, List.getElem?_eq_getElem hk]
                have Hgk := Lib.hid hgk
                have b0 : (0 : Int) ≤ (keep[n].toNat : Int) := by omega
                have b1 : (keep[n].toNat : Int) ≤ 255 := by have := keep[n].toNat_lt; omega
                clear hgk kc
                go_wp2_with fail
                go_meet
                exact ⟨by rw [if_pos hk, Hgk.out], rfl⟩
              · go_wp2_with fail
                go_meet
                exact ⟨by rw [if_neg hk]; rfl, rfl⟩
            case rest =>
              obtain ⟨rfl, rfl⟩ := hcut
              obtain ⟨x, ex⟩ : ∃ x : Nat, x = if n < keep.length then (keep.getD n 0).toNat else 0 := ⟨_, rfl⟩
              rw [← ex]
              have hx9 : x ≤ 255 := by rw [ex]; split <;> first | omega | (have := (keep.getD n 0).toNat_lt; omega)
              have HKp : Hid (pickP m keep n = min x m) := Lib.hid (by rw [ex]; unfold pickP; split <;> simp)
              have x0' : (0 : Int) ≤ (x : Int) := by omega
              clear ex
              go_upto_if 53 with fail
              go_cut [12] from 25 to 92 (fun t12 wx => t12 = .int .i64 ((pickP m keep n : Nat) : Int) ∧ wr.drew = wx)
              case first =>
                by_cases hxm : m + 1 ≤ x
                · have hxi : ((m + 1 : Nat) : Int) ≤ (x : Int) := by omega
                  have msw : IntKind.i64.wrap ((m : Nat) : Int) = (m : Int) := by rw [IntKind.wrap_i64]; omega
                  go_wp2_with fail
                  go_meet
                  exact ⟨by rw [HKp.out, show min x m = m by omega], rfl⟩
                · have hxi : (x : Int) < ((m + 1 : Nat) : Int) := by omega
                  go_wp2_with fail
                  go_meet
                  exact ⟨by rw [HKp.out, show min x m = x by omega], rfl⟩
              case rest =>
                obtain ⟨rfl, rfl⟩ := hcut
                have hKm := pickP_le m keep n
                have Hfd2 := Lib.hid Hfd.out
                obtain ⟨K, eK⟩ : ∃ K, K = pickP m keep n := ⟨_, rfl⟩
                have hfd3 := Hfd2.out
                rw [← eK] at hfd3 hKm ⊢
                have Hfd4 := Lib.hid hfd3
                have K0 : (0 : Int) ≤ (K : Int) := by omega
                have Kl : (K : Int) < ((m + 1 : Nat) : Int) := by omega
                have Kl2 : (K : Int) < (m : Int) + 1 := by omega
                have zK := Hcs.out K (by rw [Hlen.out]; omega)
                obtain ⟨sa, esa⟩ : ∃ sa, sa = (d.safe.getD j [] :: d.writes.getD j []).getD K [] := ⟨_, rfl⟩
                rw [← esa] at zK
                have Hsa := Lib.hid esa
                unfold sV at zK
                clear eK hfd3 esa x0'
                go_upto_region 18 with fail
                go_cut [67] from 25 to 92 (fun t67 wx => t67 = .bool (decide ((n : Int) = tn ∧ 0 < K)) ∧ wr.drew = wx)
                case first =>
                  by_cases htn : (n : Int) = tn
                  · have Htn := Lib.hid htn
                    have hte : ((n : Int) == tn) = true := by rw [htn]; exact beq_self_eq_true _
                    clear htn
                    by_cases hK0 : 0 < K
                    · have hK1 : (0 : Int) < (K : Int) := by omega
                      go_wp2_with fail
                      go_meet
                      exact ⟨by rw [decide_eq_true (And.intro Htn.out hK0)], rfl⟩
                    · have hK1 : ¬ (0 : Int) < (K : Int) := by omega
                      go_wp2_with fail
                      go_meet
                      exact ⟨by rw [decide_eq_false (fun h => hK0 h.2)], rfl⟩
                  · have hte : ((n : Int) == tn) = false := by simpa using htn
                    have Htn := Lib.hid htn
                    clear htn
                    go_wp2_with fail
                    go_meet
                    exact ⟨by rw [decide_eq_false (fun h => Htn.out h.1)], rfl⟩
                case rest =>
                obtain ⟨rfl, rfl⟩ := hcut
                go_upto_if 67 with fail
                go_cut [13] from 25 to 92 (fun t13 wx => t13 = .string ⟨(f j).toArray⟩ ∧ Below wr.heap.size wr wx)
                case first =>
                  by_cases htk : (n : Int) = tn ∧ 0 < K
                  · rw [decide_eq_true htk]
                    obtain ⟨htn, hK0⟩ := htk
                    obtain ⟨K1, rfl⟩ : ∃ K1, K = K1 + 1 := ⟨K - 1, by omega⟩
                    have zK1 := Hcs.out K1 (by rw [Hlen.out]; omega)
                    obtain ⟨sb, esb⟩ : ∃ sb, sb = (d.safe.getD j [] :: d.writes.getD j []).getD K1 [] := ⟨_, rfl⟩
                    rw [← esb] at zK1
                    have Hfj : Hid (f j = sa.take A ++ sb.drop A) := Lib.hid (by
                      rw [Hef.out, Hfd4.out, if_pos ⟨htn, hK0⟩, HA.out, ← Hsa.out, Nat.add_sub_cancel, ← esb])
                    unfold sV at zK1
                    have la : sa.length = 128 := by rw [Hsa.out]; exact H128.out j (K1 + 1) Hj1.out (by rw [Hmm.out]; omega)
                    have lb2 : sb.length = 128 := by rw [esb]; exact H128.out j K1 Hj1.out (by rw [Hmm.out]; omega)
                    have hs1 := sl_to sa A (by omega)
                    have hs2 := sl_from sb A (by omega)
                    have ksw : IntKind.i64.wrap ((K1 : Nat) : Int) = (K1 : Int) := by rw [IntKind.wrap_i64]; omega
                    have hct := cat2 (sa.take A) (sb.drop A)
                    have hlen1 : (sa.take A).length + (sb.drop A).length ≤ 256 := by rw [List.length_take, List.length_drop]; omega
                    have hq9 : min A sa.length + (sb.length - A) ≤ 9223372036854775807 := by omega
                    clear htn esb la lb2
                    go_wp2_with fail
                    refine wp_region_held_drew (S := fun w' => w' = wr.drew.drew) (by kernel_rfl) rfl (fun hHeld => ?_)
                    refine wpAnyH_take (i := 0) (v := .slice (some ⟨g, 0, none⟩) (m + 1) c1) rfl (by kernel_rfl) (by kernel_rfl) (by kernel_rfl) (fun _ _ _ h => h) (Or.inl ⟨by rfl, ?_⟩) hHeld ?_
                    · intro w' hSw; subst hSw; go_simp
                    try simp only [Act.put, List.getElem_toArray, List.getElem_cons_succ, List.getElem_cons_zero, List.setIfInBounds_toArray, List.set_cons_zero, List.set_cons_succ]
                    refine wpAnyH_take (i := 1) (v := .int .i64 (((K1 + 1 : Nat) : Int))) rfl (by kernel_rfl) (by kernel_rfl) (by kernel_rfl) (fun _ _ _ h => h) (Or.inl ⟨by rfl, ?_⟩) hHeld ?_
                    · intro w' hSw; subst hSw; go_simp
                    try simp only [Act.put, List.getElem_toArray, List.getElem_cons_succ, List.getElem_cons_zero, List.setIfInBounds_toArray, List.set_cons_zero, List.set_cons_succ]
                    refine wpAnyH_take (i := 2) (v := .pointer (some ⟨g, (K1 + 1), none⟩)) rfl (by kernel_rfl) (by kernel_rfl) (by kernel_rfl) (fun _ _ _ h => h) (Or.inl ⟨by rfl, ?_⟩) hHeld ?_
                    · intro w' hSw; subst hSw; go_simp <;> (intro hx; exact absurd (hx (by omega)) (by omega))
                    try simp only [Act.put, List.getElem_toArray, List.getElem_cons_succ, List.getElem_cons_zero, List.setIfInBounds_toArray, List.set_cons_zero, List.set_cons_succ]
                    refine wpAnyH_take (i := 3) (v := .string ⟨sa.toArray⟩) rfl (by kernel_rfl) (by kernel_rfl) (by kernel_rfl) (fun _ _ _ h => h) (Or.inl ⟨by rfl, ?_⟩) hHeld ?_
                    · intro w' hSw; subst hSw; go_simp
                    try simp only [Act.put, List.getElem_toArray, List.getElem_cons_succ, List.getElem_cons_zero, List.setIfInBounds_toArray, List.set_cons_zero, List.set_cons_succ]
                    refine wpAnyH_take (i := 4) (v := .int .i64 ((A : Int))) rfl (by kernel_rfl) (by kernel_rfl) (by kernel_rfl) (fun _ _ _ h => h) (Or.inl ⟨by rfl, ?_⟩) hHeld ?_
                    · intro w' hSw; subst hSw; go_simp
                    try simp only [Act.put, List.getElem_toArray, List.getElem_cons_succ, List.getElem_cons_zero, List.setIfInBounds_toArray, List.set_cons_zero, List.set_cons_succ]
                    refine wpAnyH_take (i := 5) (v := .string ⟨(sa.take A).toArray⟩) rfl (by kernel_rfl) (by kernel_rfl) (by kernel_rfl) (fun _ _ _ h => h) (Or.inl ⟨by rfl, ?_⟩) hHeld ?_
                    · intro w' hSw; subst hSw; go_simp
                    try simp only [Act.put, List.getElem_toArray, List.getElem_cons_succ, List.getElem_cons_zero, List.setIfInBounds_toArray, List.set_cons_zero, List.set_cons_succ]
                    refine wpAnyH_take (i := 6) (v := .slice (some ⟨g, 0, none⟩) (m + 1) c1) rfl (by kernel_rfl) (by kernel_rfl) (by kernel_rfl) (fun _ _ _ h => h) (Or.inl ⟨by rfl, ?_⟩) hHeld ?_
                    · intro w' hSw; subst hSw; go_simp
                    try simp only [Act.put, List.getElem_toArray, List.getElem_cons_succ, List.getElem_cons_zero, List.setIfInBounds_toArray, List.set_cons_zero, List.set_cons_succ]
                    refine wpAnyH_take (i := 7) (v := .int .i64 (((K1 + 1 : Nat) : Int))) rfl (by kernel_rfl) (by kernel_rfl) (by kernel_rfl) (fun _ _ _ h => h) (Or.inl ⟨by rfl, ?_⟩) hHeld ?_
                    · intro w' hSw; subst hSw; go_simp
                    try simp only [Act.put, List.getElem_toArray, List.getElem_cons_succ, List.getElem_cons_zero, List.setIfInBounds_toArray, List.set_cons_zero, List.set_cons_succ]
                    refine wpAnyH_take (i := 8) (v := .int .i64 ((K1 : Int))) rfl (by kernel_rfl) (by kernel_rfl) (by kernel_rfl) (fun _ _ _ h => h) (Or.inl ⟨by rfl, ?_⟩) hHeld ?_
                    · intro w' hSw; subst hSw; go_simp
                    try simp only [Act.put, List.getElem_toArray, List.getElem_cons_succ, List.getElem_cons_zero, List.setIfInBounds_toArray, List.set_cons_zero, List.set_cons_succ]
                    refine wpAnyH_take (i := 9) (v := .pointer (some ⟨g, K1, none⟩)) rfl (by kernel_rfl) (by kernel_rfl) (by kernel_rfl) (fun _ _ _ h => h) (Or.inl ⟨by rfl, ?_⟩) hHeld ?_
                    · intro w' hSw; subst hSw; go_simp <;> (intro hx; exact absurd hx (by omega))
                    try simp only [Act.put, List.getElem_toArray, List.getElem_cons_succ, List.getElem_cons_zero, List.setIfInBounds_toArray, List.set_cons_zero, List.set_cons_succ]
                    refine wpAnyH_take (i := 10) (v := .string ⟨sb.toArray⟩) rfl (by kernel_rfl) (by kernel_rfl) (by kernel_rfl) (fun _ _ _ h => h) (Or.inl ⟨by rfl, ?_⟩) hHeld ?_
                    · intro w' hSw; subst hSw; go_simp
                    try simp only [Act.put, List.getElem_toArray, List.getElem_cons_succ, List.getElem_cons_zero, List.setIfInBounds_toArray, List.set_cons_zero, List.set_cons_succ]
                    refine wpAnyH_take (i := 11) (v := .int .i64 ((A : Int))) rfl (by kernel_rfl) (by kernel_rfl) (by kernel_rfl) (fun _ _ _ h => h) (Or.inl ⟨by rfl, ?_⟩) hHeld ?_
                    · intro w' hSw; subst hSw; go_simp
                    try simp only [Act.put, List.getElem_toArray, List.getElem_cons_succ, List.getElem_cons_zero, List.setIfInBounds_toArray, List.set_cons_zero, List.set_cons_succ]
                    refine wpAnyH_take (i := 12) (v := .string ⟨(sb.drop A).toArray⟩) rfl (by kernel_rfl) (by kernel_rfl) (by kernel_rfl) (fun _ _ _ h => h) (Or.inl ⟨by rfl, ?_⟩) hHeld ?_
                    · intro w' hSw; subst hSw; go_simp
                    try simp only [Act.put, List.getElem_toArray, List.getElem_cons_succ, List.getElem_cons_zero, List.setIfInBounds_toArray, List.set_cons_zero, List.set_cons_succ]
                    refine wpAnyH_take (i := 13) (v := .string ⟨(sa.take A ++ sb.drop A).toArray⟩) rfl (by kernel_rfl) (by kernel_rfl) (by kernel_rfl) (fun _ _ _ h => h) (Or.inl ⟨by rfl, ?_⟩) hHeld ?_
                    · intro w' hSw; subst hSw; have kx := cat2 (sa.take A) (sb.drop A); go_simp
                    try simp only [Act.put, List.getElem_toArray, List.getElem_cons_succ, List.getElem_cons_zero, List.setIfInBounds_toArray, List.set_cons_zero, List.set_cons_succ]
                    refine wpAnyH_take (i := 14) (v := .string ⟨(sa.take A ++ sb.drop A).toArray⟩) rfl (by kernel_rfl) (by kernel_rfl) (by kernel_rfl) (fun _ _ _ h => h) (Or.inl ⟨by rfl, ?_⟩) hHeld ?_
                    · intro w' hSw; subst hSw; go_simp
                    try simp only [Act.put, List.getElem_toArray, List.getElem_cons_succ, List.getElem_cons_zero, List.setIfInBounds_toArray, List.set_cons_zero, List.set_cons_succ]
                    refine wpAnyH_done (by kernel_rfl) ?_ _
                    clear hHeld
                    go_wp2_with fail
                    go_meet
                    exact ⟨by rw [Hfj.out], (Below.drew (Below.refl _ _)).drew⟩
                  · have Hfj : Hid (f j = sa) := Lib.hid (by rw [Hef.out, Hfd4.out, if_neg htk, ← Hsa.out])
                    rw [decide_eq_false htk]
                    clear htk
                    go_wp2_with fail
                    go_meet
                    exact ⟨by rw [Hfj.out], Below.drew (Below.refl _ _)⟩
                case rest =>
                  obtain ⟨rfl, hBx⟩ := hcut
                  obtain ⟨wy, ewy⟩ : ∃ x, x = wc := ⟨_, rfl⟩
                  subst ewy
                  obtain ⟨s, es⟩ : ∃ s, s = f j := ⟨_, rfl⟩
                  rw [← es]
                  have hsy := hBx.size
                  have Hg9y := Lib.hid (Nat.lt_of_lt_of_le Hg9w.out hsy)
                  have nl9 : (n : Int) + 1 ≤ 9223372036854775807 := by have h1 := dirtyTo_length d d.safe.length; rw [← Held.out] at h1; omega
                  have Hhd2 := Lib.hid (Hhd.out.below hBx hrb)
                  have y92 := (World.cell?_of_block (hBx.block g9 hg9w)).trans y9
                  have hlby : lb < wy.heap.size := by omega
                  have x0y := (World.cell?_of_block (hBx.block lb hlb)).trans x0
                  have Hx0y := Lib.hid x0y
                  have hr2 : RfIn wy (fun k => S k ∨ (w1.heap.size ≤ k ∧ k < wy.heap.size)) rb lb c ws' (d.upTo f j) := Hrj.out.keep (fun k _ hk => hBx.block k hk) (fun k e => e.imp id (fun e => ⟨e.1, by omega⟩))
                  have hn5 : j < ws'.length := by rw [hr2.lw, Dk.upTo_len]; exact Hj1.out
                  have Hfw : Hid (wy.frozen? ⟨lb, j, none⟩ = false) := Lib.hid (by
                    obtain ⟨g', cap', e', -, -, -, -, -, hz⟩ := Own.form hr2.hl (fun e => by rw [e] at hn5; exact absurd hn5 (Nat.not_lt_zero _))
                    injection e' with e'
                    injection e' with e'
                    injection e' with e'
                    subst e'
                    exact hz j)
                  have Hcl : Hid ((wy.drew.alloc (.cells #[sV s] 9)).cell? ⟨lb, j, none⟩ = some (.slice (some ⟨g, 0, none⟩) (m + 1) c1)) := Lib.hid ((World.cell?_of_block (Below.heap_alloc _ _ _ hlby)).trans x0y)
                  have hstep := hr2.setRow j hn5 (wx := wy.drew.alloc (.cells #[sV s] 9)) ((Below.drew (Below.refl _ _)).alloc (Nat.le_refl _) _) (v' := .slice (some ⟨wy.heap.size, 0, none⟩) 1 1) (s' := s) (l' := []) (ownG1 wy.drew s rfl 0 (Nat.zero_le _)) (fun q e => by
                    have : some wy.heap.size = some q := e
                    injection this with this; omega)
                  have hst2 : (⟨(d.upTo f j).safe.set j s, (d.upTo f j).writes.set j [], (d.upTo f j).fuse, (d.upTo f j).down, (d.upTo f j).ops⟩ : Dk) = d.upTo f (j + 1) := by rw [es]; exact Hst.out.symm
                  rw [hst2] at hstep
                  have HOn : Hid (Only S w1 ((wy.drew.alloc (.cells #[sV s] 9)).setCell ⟨lb, j, none⟩ (.slice (some ⟨wy.heap.size, 0, none⟩) 1 1))) := Lib.hid (HOr.out.trans ((Below.only hBx).trans ((Only.drew _).trans ((Only.alloc _ _).trans (Only.setCell _ (p := ⟨lb, j, none⟩) H.out.sl _)))))
                  have HRn := Lib.hid (hstep.keep (w' := (wy.drew.alloc (.cells #[sV s] 9)).setCell ⟨lb, j, none⟩ (.slice (some ⟨wy.heap.size, 0, none⟩) 1 1)) (S' := fun k => S k ∨ (w1.heap.size ≤ k ∧ k < ((wy.drew.alloc (.cells #[sV s] 9)).setCell ⟨lb, j, none⟩ (.slice (some ⟨wy.heap.size, 0, none⟩) 1 1)).heap.size)) (fun _ _ _ => rfl) (fun k e => by
                    have hz1 := HOr.out.size
                    have hz2 : ((wy.drew.alloc (.cells #[sV s] 9)).setCell ⟨lb, j, none⟩ (.slice (some ⟨wy.heap.size, 0, none⟩) 1 1)).heap.size = wy.heap.size + 1 := by simp [World.setCell]
                    have hz3 : (wy.drew.alloc (.cells #[sV s] 9)).heap.size = wy.heap.size + 1 := by simp
                    rcases e with (e | e) | e
                    · exact .inl e
                    · exact .inr ⟨e.1, by omega⟩
                    · exact .inr ⟨by omega, by omega⟩))
                  clear es hr2 hstep hst2 hBx x0 x0y y9 zK
                  go_wp2_with fail
                  refine wp_region_held_drew (S := fun w' => Only (· = lb) wy w') (by kernel_rfl) (Only.drew _) (fun hHeld => ?_)
                  refine wpAnyH_take (i := 0) (v := .pointer (some ⟨rb, 0, none⟩)) rfl (by kernel_rfl) (by kernel_rfl) (by kernel_rfl) (fun _ _ _ h => h) (Or.inl ⟨by rfl, ?_⟩) hHeld ?_
                  · intro w' hSw; go_simp
                  try simp only [Act.put, List.getElem_toArray, List.getElem_cons_succ, List.getElem_cons_zero, List.setIfInBounds_toArray, List.set_cons_zero, List.set_cons_succ]
                  refine wpAnyH_take (i := 1) (v := .pointer (some ⟨rb, 0, none⟩)) rfl (by kernel_rfl) (by kernel_rfl) (by kernel_rfl) (fun _ _ _ h => h) (Or.inl ⟨by rfl, ?_⟩) hHeld ?_
                  · intro w' hSw; go_simp
                  try simp only [Act.put, List.getElem_toArray, List.getElem_cons_succ, List.getElem_cons_zero, List.setIfInBounds_toArray, List.set_cons_zero, List.set_cons_succ]
                  refine wpAnyH_take (i := 2) (v := .pointer (some ⟨rb, 0, none⟩)) rfl (by kernel_rfl) (by kernel_rfl) (by kernel_rfl) (fun _ _ _ h => h) (Or.inl ⟨by rfl, ?_⟩) hHeld ?_
                  · intro w' hSw; go_simp
                  try simp only [Act.put, List.getElem_toArray, List.getElem_cons_succ, List.getElem_cons_zero, List.setIfInBounds_toArray, List.set_cons_zero, List.set_cons_succ]
                  refine wpAnyH_take (i := 3) (v := .slice (some ⟨lb, 0, none⟩) d.safe.length c) rfl (by kernel_rfl) (by kernel_rfl) (by kernel_rfl) (fun _ _ _ h => h) (Or.inl ⟨by rfl, ?_⟩) hHeld ?_
                  · intro w' hSw; have kx := (hSw.blk Hhd2.out Hrl.out).cells.c4.1; go_simp
                  try simp only [Act.put, List.getElem_toArray, List.getElem_cons_succ, List.getElem_cons_zero, List.setIfInBounds_toArray, List.set_cons_zero, List.set_cons_succ]
                  refine wpAnyH_take (i := 4) (v := .slice (some ⟨g9, 0, none⟩) ld.length c9) rfl (by kernel_rfl) (by kernel_rfl) (by kernel_rfl) (fun _ _ _ h => h) (Or.inl ⟨by rfl, ?_⟩) hHeld ?_
                  · intro w' hSw; go_simp
                  try simp only [Act.put, List.getElem_toArray, List.getElem_cons_succ, List.getElem_cons_zero, List.setIfInBounds_toArray, List.set_cons_zero, List.set_cons_succ]
                  refine wpAnyH_take (i := 5) (v := .int .i64 ((n : Int))) rfl (by kernel_rfl) (by kernel_rfl) (by kernel_rfl) (fun _ _ _ h => h) (Or.inl ⟨by rfl, ?_⟩) hHeld ?_
                  · intro w' hSw; go_simp
                  try simp only [Act.put, List.getElem_toArray, List.getElem_cons_succ, List.getElem_cons_zero, List.setIfInBounds_toArray, List.set_cons_zero, List.set_cons_succ]
                  refine wpAnyH_take (i := 6) (v := .pointer (some ⟨g9, n, none⟩)) rfl (by kernel_rfl) (by kernel_rfl) (by kernel_rfl) (fun _ _ _ h => h) (Or.inl ⟨by rfl, ?_⟩) hHeld ?_
                  · intro w' hSw; go_simp
                  try simp only [Act.put, List.getElem_toArray, List.getElem_cons_succ, List.getElem_cons_zero, List.setIfInBounds_toArray, List.set_cons_zero, List.set_cons_succ]
                  refine wpAnyH_take (i := 7) (v := .int .i64 ((j : Int))) rfl (by kernel_rfl) (by kernel_rfl) (by kernel_rfl) (fun _ _ _ h => h) (Or.inl ⟨by rfl, ?_⟩) hHeld ?_
                  · intro w' hSw; have kx := (World.cell?_of_block (hSw.block g9 Hg9y.out Hg9l.out)).trans y92; go_simp
                  try simp only [Act.put, List.getElem_toArray, List.getElem_cons_succ, List.getElem_cons_zero, List.setIfInBounds_toArray, List.set_cons_zero, List.set_cons_succ]
                  refine wpAnyH_take (i := 8) (v := .string ⟨s.toArray⟩) rfl (by kernel_rfl) (by kernel_rfl) (by kernel_rfl) (fun _ _ _ h => h) (Or.inl ⟨by rfl, ?_⟩) hHeld ?_
                  · intro w' hSw; go_simp
                  try simp only [Act.put, List.getElem_toArray, List.getElem_cons_succ, List.getElem_cons_zero, List.setIfInBounds_toArray, List.set_cons_zero, List.set_cons_succ]
                  refine wpAnyH_ready (rs := [9]) (by kernel_rfl) (by simp) ?_
                  refine allVal (v := .slice (some ⟨wy.heap.size, 0, none⟩) 1 1) (w' := wy.drew.alloc (.cells #[sV s] 9)) rfl (by kernel_rfl) ?_ ((Only.drew _).trans (Only.alloc _ _)) ?_ AllReadyH.nil
                  · go_simp; rfl
                  replace hHeld : Only (· = lb) wy (wy.drew.alloc (.cells #[sV s] 9)) := (Only.drew _).trans (Only.alloc _ _)
                  try simp only [Act.put, List.getElem_toArray, List.getElem_cons_succ, List.getElem_cons_zero, List.setIfInBounds_toArray, List.set_cons_zero, List.set_cons_succ]
                  refine wpAnyH_take (i := 10) (v := .pointer (some ⟨lb, j, none⟩)) rfl (by kernel_rfl) (by kernel_rfl) (by kernel_rfl) (fun _ _ _ h => h) (Or.inl ⟨by rfl, ?_⟩) hHeld ?_
                  · intro w' hSw; go_simp
                  try simp only [Act.put, List.getElem_toArray, List.getElem_cons_succ, List.getElem_cons_zero, List.setIfInBounds_toArray, List.set_cons_zero, List.set_cons_succ]
                  refine wpAnyH_ready (rs := [11]) (by kernel_rfl) (by simp) ?_
                  refine allSkip (w' := (wy.drew.alloc (.cells #[sV s] 9)).setCell ⟨lb, j, none⟩ (.slice (some ⟨wy.heap.size, 0, none⟩) 1 1)) rfl (by kernel_rfl) ?_ (hHeld.trans (Only.setCell (A := (· = lb)) _ (p := ⟨lb, j, none⟩) rfl _)) ?_ AllReadyH.nil
                  · have kw := Hfw.out
                    have kv := Hx0y.out
                    have ky := Hcl.out
                    go_simp
                  try simp only [Act.put, List.getElem_toArray, List.getElem_cons_succ, List.getElem_cons_zero, List.setIfInBounds_toArray, List.set_cons_zero, List.set_cons_succ]
                  refine wpAnyH_done (by kernel_rfl) ?_ _
                  clear hHeld
                  generalize (wy.drew.alloc (.cells #[sV s] 9)).setCell ⟨lb, j, none⟩ (.slice (some ⟨wy.heap.size, 0, none⟩) 1 1) = wn at *
                  have hjn := Hj1.out
                  go_wp2_with fail
                  go_roundw
                  case rel => exact ⟨n + 1, j + 1, _, by omega, by go_num, Hcn.out.symm, HOn.out, HRn.out⟩
                  case measure => first | (simp [intOf]; done) | (simp [intOf]; omega)
          · have he : n = ld.length := by
              have h1 := dirty_len d d.safe.length
              have h2 := cnt_mono d hi1
              rw [← Held.out] at h1
              omega
            have hup : d.upTo f d.safe.length = d.upTo f i := upTo_skips d f Hfc.out i d.safe.length hi1 (by rw [← dirty_len, ← Held.out, ← he, hn])
            have hr3 : RfIn wr (fun k => S k ∨ (w1.heap.size ≤ k ∧ k < wr.heap.size)) rb lb c ws' (d.upTo f d.safe.length) := by rw [hup]; exact Hr.out
            have hb1 := ((Hhd.out.set 2 (.bool false)).set 1 (.int .i64 (-1)))
            have hO4 : Only (· = rb) wr ((wr.setCell ⟨rb, 2, none⟩ (.bool false)).setCell ⟨rb, 1, none⟩ (.int .i64 (-1))) := (Only.setCell (A := (· = rb)) _ (p := ⟨rb, 2, none⟩) rfl _).trans (Only.setCell (A := (· = rb)) _ (p := ⟨rb, 1, none⟩) rfl _)
            have hd4 := hr3.head hO4 (-1) (d.upTo f i).ops false (by rw [Dk.upTo_len]; exact hb1)
            have hz4 : ((wr.setCell ⟨rb, 2, none⟩ (.bool false)).setCell ⟨rb, 1, none⟩ (.int .i64 (-1))).heap.size = wr.heap.size := by simp [World.setCell]
            have hs1 := HB1.out
            have hr := HR5.out ((wr.setCell ⟨rb, 2, none⟩ (.bool false)).setCell ⟨rb, 1, none⟩ (.int .i64 (-1))) (HBo.out.trans (HOr.out.trans (hO4.mono (fun k _ e => e ▸ H.out.sr)))) ⟨lb, c, ws', by
              rw [← Hef.out]
              exact hd4.keep (fun _ _ _ => rfl) (fun k e => e.imp id (fun e => ⟨by omega, by rw [hz4]; exact e.2⟩))⟩
            obtain ⟨-, c1', c2', -⟩ := Hhd.out.cells.c4
            have f1 := Hhd.out.free 1
            have f2 := Hhd.out.free 2
            clear hr3 hb1 hO4 hd4 hz4 hup he hn
            go_wp2_with fail
            all_goals first | exact hr | exact fin hr rfl
end Go.Proofs.Ytfmpafheodpfoaa
