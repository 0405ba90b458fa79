/- Trees: of, told, alive, grown. (Printed by treeal.py.) -/
import Derived.Test.YtmlcnfomiemdpaaTreeRa
import Derived.Test.YtmlcnfomiemdpaaTreeO
import Derived.Lib.SlBytesConst
namespace Go.Proofs.Ytmlcnfomiemdpaa
open Go.RowKit
attribute [local go_sem ↓] Go.wp_at_zero Go.wp_at_succ
set_option linter.unusedVariables false
set_option linter.unusedSimpArgs false

abbrev Nn : Nat → Prop := fun _ => False
theorem Nn.lt (lo : Nat) : ∀ b, Nn b → b < lo := fun _ h => h.elim
theorem Tr.ptr2 {B : Nat → Prop} {lo : Nat} {w : World} {t : T} {p : Value} (h : Tr B lo w t p) : ∃ q, p = .pointer q := by
  rcases h with ⟨e, -⟩ | ⟨b, q, e, -⟩ <;> exact ⟨_, e⟩
/-- A tree that a law has made. -/
structure Gr (t : T) (n : Nat) : Prop where
  rises : Rises t.toL
  many : t.many ≤ n
  lens : ∀ x ∈ t.toL, x.1.length ≤ 4096 ∧ x.2.length ≤ 65536
theorem Gr.nil : Gr .nil 0 := ⟨List.Pairwise.nil, Nat.le_refl _, fun _ h => by cases h⟩
theorem Gr.mono {t : T} {n m : Nat} (h : Gr t n) (hm : n ≤ m) : Gr t m := ⟨h.rises, Nat.le_trans h.many hm, h.lens⟩
theorem Gr.put {t : T} {n : Nat} (h : Gr t n) (k v : List UInt8) (hk : k.length ≤ 4096) (hv : v.length ≤ 65536) : Gr (t.put k v) (n + 1) where
  rises := by rw [T.toL_put _ _ _ h.rises]; exact rises_insL _ _ _ h.rises
  many := by have := t.put_many k v; have := h.many; omega
  lens := fun x hx => by
    rw [T.toL_put _ _ _ h.rises] at hx
    rcases mem_insL _ _ _ _ hx with rfl | hx
    · exact ⟨hk, hv⟩
    · exact h.lens x hx
theorem Gr.cut {t : T} {n : Nat} (h : Gr t n) (k : List UInt8) : Gr (t.cut k) n where
  rises := by rw [T.toL_cut _ _ h.rises]; exact rises_delL _ _ h.rises
  many := by have := t.cut_many k; have := h.many; omega
  lens := fun x hx => by
    rw [T.toL_cut _ _ h.rises] at hx
    exact h.lens x (List.mem_filter.1 hx).1
theorem Gr.len8 {t : T} {n : Nat} (h : Gr t n) : ∀ x ∈ t.toL, x.1.length ≤ 100000000 ∧ x.2.length ≤ 100000000 := fun x hx => by have := h.lens x hx; omega
theorem Gr.find {t : T} {n : Nat} (h : Gr t n) (k : List UInt8) : ∀ k' v' l r, t.find k = .node k' v' l r → v'.length ≤ 100000000 := fun k' v' l r e => by
  have h1 : t.get k = some v' := by simp [T.get, e]
  rw [T.get_eq _ _ h.rises] at h1
  obtain ⟨k2, h2⟩ := getL_mem _ _ _ h1
  have := h.lens _ h2
  simp at this; omega
theorem wrap_u8sub (a b : UInt8) : IntKind.u8.wrap ((a.toNat : Int) - (b.toNat : Int)) = ((a - b).toNat : Int) := by
  have h1 := a.toNat_lt
  have h2 := b.toNat_lt
  simp only [IntKind.wrap, IntKind.signed, IntKind.bits, Bool.false_and, UInt8.toNat_sub]
  simp
  omega
theorem wrap_u8add (a b : UInt8) : IntKind.u8.wrap ((a.toNat : Int) + (b.toNat : Int)) = ((a + b).toNat : Int) := by
  have h1 := a.toNat_lt
  have h2 := b.toNat_lt
  simp only [IntKind.wrap, IntKind.signed, IntKind.bits, Bool.false_and, UInt8.toNat_add]
  simp
theorem extractS (s : List UInt8) (a b : Nat) : (ByteArray.mk s.toArray).extract a b = ⟨((s.drop a).take (b - a)).toArray⟩ := by
  apply ByteArray.ext
  simp only [ByteArray.extract, ByteArray.copySlice]
  apply Array.toList_inj.1
  simp
/-- 'of'. -/
def ofT (s : List UInt8) : T := s.foldl (fun t c => t.put [c] [c - 97 + 49]) .nil
theorem ofT_take (s : List UInt8) (k : Nat) (hk : k < s.length) : ofT (s.take (k + 1)) = (ofT (s.take k)).put [s[k]] [s[k] - 97 + 49] := by
  rw [ofT, List.take_succ_eq_append_getElem hk, List.foldl_append]
  rfl
theorem ofT_gr (s : List UInt8) : ∀ k, k ≤ s.length → Gr (ofT (s.take k)) k
  | 0, _ => by rw [List.take_zero]; exact Gr.nil
  | k + 1, h => by rw [ofT_take s k (by omega)]; exact (ofT_gr s k (by omega)).put _ _ (by simp) (by simp)

set_option maxRecDepth 100000 in
set_option maxHeartbeats 4000000 in
theorem of_any (s : List UInt8) (hs : s.length ≤ 100) (w : World) (R : Ending → World → Prop)
    (hR : ∀ w' p, Below w.heap.size w w' → Tr Nn w.heap.size w' (ofT s) p → R (.returned p) w') : Calls Try.prog 29 #[.string ⟨s.toArray⟩] w R := by
  have HR := Lib.hid hR
  clear hR
  go_enter Try.func29, Try.ntmps29
  go_wp2_with fail
  go_loopw [3, 4] (fun t3 t4 wr => ∃ k : Nat, k ≤ s.length ∧ t4 = .int .i64 k ∧ Below w.heap.size w wr ∧ Tr Nn w.heap.size wr (ofT (s.take k)) t3) (fun _ t4 _ => s.length - (intOf t4).toNat)
  case atStart => exact ⟨0, Nat.zero_le _, rfl, Below.refl _ _, .inl ⟨rfl, by rw [List.take_zero]; rfl⟩⟩
  case round =>
    obtain ⟨k, hk, rfl, hB, ht⟩ := hrel
    have HB := Lib.hid hB
    have Ht := Lib.hid ht
    have hsz := hB.size
    obtain ⟨q3, rfl⟩ := ht.ptr2
    clear hB ht
    by_cases hlt : k < s.length
    · have k0 : (0 : Int) ≤ (k : Int) := by omega
      have k1 : (k : Int) < (s.length : Int) := by omega
      have k2 : IntKind.i64.wrap ((k : Int) + 1) = (k : Int) + 1 := wrap_ok (by omega) (by omega)
      obtain ⟨c, hc⟩ : ∃ c, c = s[k] := ⟨_, rfl⟩
      have hx : (ByteArray.mk s.toArray).extract k (k + 1) = ⟨[c].toArray⟩ := by
        rw [extractS, hc, List.drop_eq_getElem_cons hlt, show k + 1 - k = 1 by omega]
        rfl
      have hw1 : IntKind.u8.wrap ((c.toNat : Int) - 97) = ((c - 97).toNat : Int) := wrap_u8sub c 97
      have hw2 : IntKind.u8.wrap (((c - 97).toNat : Int) + 49) = ((c - 97 + 49).toNat : Int) := wrap_u8add (c - 97) 49
      have hnext : ofT (s.take (k + 1)) = (ofT (s.take k)).put [c] [c - 97 + 49] := by rw [ofT_take s k hlt, hc]
      have hgr := ofT_gr s k hk
      have Hnext := Lib.hid hnext
      have Hgr := Lib.hid hgr
      have Hc := Lib.hid hc
      have hidx : ∀ w : World, (Instr.index 9 (.string ⟨s.toArray⟩) (.int .i64 (k : Int))).run Try.prog w = .ok (.int .u8 c.toNat) w := fun w => by rw [hc]; go_simp
      have hsl : ∀ w : World, (Instr.slice 9 (.string ⟨s.toArray⟩) (some (.int .i64 (k : Int))) (some (.int .i64 ((k : Int) + 1))) none).run Try.prog w = .ok (.string ⟨[c].toArray⟩) w := fun w => by
        rw [run_slice_string (P := Try.prog) (w := w) 9 ⟨s.toArray⟩ .i64 .i64 (k : Int) ((k : Int) + 1) Try.underlying9 (by omega) (by omega) (by rw [bsize]; omega)]
        rw [show ((k : Int) + 1).toNat = k + 1 by omega, Int.toNat_natCast, hx]
      clear hc hx
      have hcv := fun w => run_toBytes (P := Try.prog) (w := w) [c] 9 30 5 Try.underlying9 Try.underlying30 Try.underlying5 (by simp)
      clear hnext hgr
      go_wp2_with fail
      refine wp_region_held_drew (S := fun w' => Below wr.heap.size wr w') (by kernel_rfl) (Below.drew (Below.refl _ _)) (fun hHeld => ?_)
      refine wpAnyH_take (i := 0) (v := .pointer q3) rfl (by kernel_rfl) (by kernel_rfl) (by kernel_rfl) (fun _ _ _ h => h) (Or.inl ⟨by rfl, ?_⟩) hHeld ?_
      · intro w' hSw; go_simp
      try simp only [Act.put, List.getElem_toArray, List.getElem_cons_succ, List.getElem_cons_zero, List.setIfInBounds_toArray, List.set_cons_zero, List.set_cons_succ]
      refine wpAnyH_take (i := 1) (v := .string ⟨s.toArray⟩) rfl (by kernel_rfl) (by kernel_rfl) (by kernel_rfl) (fun _ _ _ h => h) (Or.inl ⟨by rfl, ?_⟩) hHeld ?_
      · intro w' hSw; go_simp
      try simp only [Act.put, List.getElem_toArray, List.getElem_cons_succ, List.getElem_cons_zero, List.setIfInBounds_toArray, List.set_cons_zero, List.set_cons_succ]
      refine wpAnyH_take (i := 2) (v := .int .i64 k) rfl (by kernel_rfl) (by kernel_rfl) (by kernel_rfl) (fun _ _ _ h => h) (Or.inl ⟨by rfl, ?_⟩) hHeld ?_
      · intro w' hSw; go_simp
      try simp only [Act.put, List.getElem_toArray, List.getElem_cons_succ, List.getElem_cons_zero, List.setIfInBounds_toArray, List.set_cons_zero, List.set_cons_succ]
      refine wpAnyH_take (i := 3) (v := .int .i64 k) rfl (by kernel_rfl) (by kernel_rfl) (by kernel_rfl) (fun _ _ _ h => h) (Or.inl ⟨by rfl, ?_⟩) hHeld ?_
      · intro w' hSw; go_simp
      try simp only [Act.put, List.getElem_toArray, List.getElem_cons_succ, List.getElem_cons_zero, List.setIfInBounds_toArray, List.set_cons_zero, List.set_cons_succ]
      refine wpAnyH_take (i := 4) (v := .int .i64 ((k : Int) + 1)) rfl (by kernel_rfl) (by kernel_rfl) (by kernel_rfl) (fun _ _ _ h => h) (Or.inl ⟨by rfl, ?_⟩) hHeld ?_
      · intro w' hSw; go_simp
      try simp only [Act.put, List.getElem_toArray, List.getElem_cons_succ, List.getElem_cons_zero, List.setIfInBounds_toArray, List.set_cons_zero, List.set_cons_succ]
      refine wpAnyH_take (i := 5) (v := .string ⟨[c].toArray⟩) rfl (by kernel_rfl) (by kernel_rfl) (by kernel_rfl) (fun _ _ _ h => h) (Or.inl ⟨by rfl, ?_⟩) hHeld ?_
      · intro w' hSw; have hix := hsl w'; go_simp
      try simp only [Act.put, List.getElem_toArray, List.getElem_cons_succ, List.getElem_cons_zero, List.setIfInBounds_toArray, List.set_cons_zero, List.set_cons_succ]
      refine wpAnyH_take (i := 7) (v := .string ⟨s.toArray⟩) rfl (by kernel_rfl) (by kernel_rfl) (by kernel_rfl) (fun _ _ _ h => h) (Or.inl ⟨by rfl, ?_⟩) hHeld ?_
      · intro w' hSw; go_simp
      try simp only [Act.put, List.getElem_toArray, List.getElem_cons_succ, List.getElem_cons_zero, List.setIfInBounds_toArray, List.set_cons_zero, List.set_cons_succ]
      refine wpAnyH_take (i := 8) (v := .int .i64 k) rfl (by kernel_rfl) (by kernel_rfl) (by kernel_rfl) (fun _ _ _ h => h) (Or.inl ⟨by rfl, ?_⟩) hHeld ?_
      · intro w' hSw; go_simp
      try simp only [Act.put, List.getElem_toArray, List.getElem_cons_succ, List.getElem_cons_zero, List.setIfInBounds_toArray, List.set_cons_zero, List.set_cons_succ]
      refine wpAnyH_take (i := 9) (v := .int .u8 c.toNat) rfl (by kernel_rfl) (by kernel_rfl) (by kernel_rfl) (fun _ _ _ h => h) (Or.inl ⟨by rfl, ?_⟩) hHeld ?_
      · intro w' hSw; have hix := hidx w'; go_simp
      try simp only [Act.put, List.getElem_toArray, List.getElem_cons_succ, List.getElem_cons_zero, List.setIfInBounds_toArray, List.set_cons_zero, List.set_cons_succ]
      refine wpAnyH_take (i := 10) (v := .int .u8 (c - 97).toNat) rfl (by kernel_rfl) (by kernel_rfl) (by kernel_rfl) (fun _ _ _ h => h) (Or.inl ⟨by rfl, ?_⟩) hHeld ?_
      · intro w' hSw; go_simp
      try simp only [Act.put, List.getElem_toArray, List.getElem_cons_succ, List.getElem_cons_zero, List.setIfInBounds_toArray, List.set_cons_zero, List.set_cons_succ]
      refine wpAnyH_take (i := 11) (v := .int .u8 (c - 97 + 49).toNat) rfl (by kernel_rfl) (by kernel_rfl) (by kernel_rfl) (fun _ _ _ h => h) (Or.inl ⟨by rfl, ?_⟩) hHeld ?_
      · intro w' hSw; go_simp
      try simp only [Act.put, List.getElem_toArray, List.getElem_cons_succ, List.getElem_cons_zero, List.setIfInBounds_toArray, List.set_cons_zero, List.set_cons_succ]
      refine wpAnyH_ready (rs := [6, 12]) (by kernel_rfl) (by simp) ?_
      obtain ⟨cap1, wA, hrA, hBA, hsA, hl1, hm1, hcA⟩ := hcv wr.drew
      refine allVal (v := .slice (some ⟨wr.heap.size, 0, none⟩) 1 cap1) (w' := wA) rfl (by kernel_rfl) ?_ ((Below.drew (Below.refl _ _)).trans hBA) ?_ ?_
      · have hrA' : (convert 9 30 (.string ⟨#[c]⟩)).run Try.prog wr.drew = .ok (.slice (some ⟨wr.heap.size, 0, none⟩) 1 cap1) wA := hrA
        go_simp
      · have hsA' : wA.heap.size = wr.heap.size + 1 := hsA
        have hBAr : Below wr.heap.size wr wA := (Below.drew (Below.refl _ _)).trans hBA
        have hbrun : (Instr.buildSlice 30 1 #[(0, .int .u8 (c - 97 + 49).toNat)]).run Try.prog wA = .ok (.slice (some ⟨wA.heap.size, 0, none⟩) 1 1) (wA.alloc (.cells #[.int .u8 (c - 97 + 49).toNat] 5)) := by go_simp
        have hBB : Below wA.heap.size wA (wA.alloc (.cells #[.int .u8 (c - 97 + 49).toNat] 5)) := (Below.refl _ _).alloc (Nat.le_refl _) _
        have hBr : Below wr.heap.size wr (wA.alloc (.cells #[.int .u8 (c - 97 + 49).toNat] 5)) := hBAr.trans (hBB.mono (by omega))
        have hKb : Bytes wr.heap.size (wr.heap.size + 1) (wA.alloc (.cells #[.int .u8 (c - 97 + 49).toNat] 5)) (.slice (some ⟨wr.heap.size, 0, none⟩) 1 cap1) [c] :=
          (Bytes.ofCells (c := cap1) (l := [c]) (lo := wr.heap.size) (hi := wr.heap.size + 1) hcA (Nat.le_refl _) (Nat.lt_succ_self _) hl1 hm1).below (flat_loc _) hBB (by omega)
        have hVb : Bytes wA.heap.size (wA.heap.size + 1) (wA.alloc (.cells #[.int .u8 (c - 97 + 49).toNat] 5)) (.slice (some ⟨wA.heap.size, 0, none⟩) 1 1) [c - 97 + 49] :=
          Bytes.ofCells (c := 1) (l := [c - 97 + 49]) (CellsAt.new wA [.int .u8 (c - 97 + 49).toNat] 5) (Nat.le_refl _) (Nat.lt_succ_self _) (by simp) (by decide)
        have hszB : (wA.alloc (.cells #[.int .u8 (c - 97 + 49).toNat] 5)).heap.size = wA.heap.size + 1 := by simp
        clear hrA hBA hsA hcA
        try simp only [Act.put, List.getElem_toArray, List.getElem_cons_succ, List.getElem_cons_zero, List.setIfInBounds_toArray, List.set_cons_zero, List.set_cons_succ]
        refine wpAnyH_ready (rs := [12]) (by kernel_rfl) (by simp) ?_
        refine allVal rfl (by kernel_rfl) (execBuild hbrun rfl (by kernel_rfl)) hBr ?_ AllReadyH.nil
        try simp only [Act.put, List.getElem_toArray, List.getElem_cons_succ, List.getElem_cons_zero, List.setIfInBounds_toArray, List.set_cons_zero, List.set_cons_succ]
        refine wpAnyH_ready (rs := [13]) (by kernel_rfl) (by simp) ?_
        refine allCall (f := 10) (args := #[.pointer q3, .slice (some ⟨wr.heap.size, 0, none⟩) 1 cap1, .slice (some ⟨wA.heap.size, 0, none⟩) 1 1]) rfl (by kernel_rfl) ?_ ?_ AllReadyH.nil
        · kernel_rfl
        · refine Put_any Nn w.heap.size wr.heap.size (wr.heap.size + 1) wA.heap.size (wA.heap.size + 1) (ofT (s.take k)) [c] [c - 97 + 49] _ _ _ _ (Nn.lt _) (Nat.le_trans hsz hBr.size) (Ht.out.step (Nn.lt _) hsz hBr) hKb hVb (by omega) (by omega) (by have := Hgr.out.many; omega) _ (fun h => absurd h (by simp)) (fun _ _ w2 b hB2 hlo2 ht2 => ?_)
          have hBr2 := hBr.trans (hB2.mono hBr.size)
          refine ⟨_, rfl, hBr2, ?_⟩
          rw [← Hnext.out] at ht2
          have Ht2 := Lib.hid ht2
          have HB2 := Lib.hid (HB.out.trans (hBr2.mono hsz))
          have hHeld := hBr2
          clear ht2 hB2
          try simp only [Act.put, List.getElem_toArray, List.getElem_cons_succ, List.getElem_cons_zero, List.setIfInBounds_toArray, List.set_cons_zero, List.set_cons_succ]
          refine wpAnyH_take (i := 14) (v := .tuple #[.pointer (some b), .int .i64 0]) rfl (by kernel_rfl) (by kernel_rfl) (by kernel_rfl) (fun _ _ _ h => h) (Or.inl ⟨by rfl, ?_⟩) hHeld ?_
          · intro w' hSw; go_simp
          try simp only [Act.put, List.getElem_toArray, List.getElem_cons_succ, List.getElem_cons_zero, List.setIfInBounds_toArray, List.set_cons_zero, List.set_cons_succ]
          refine wpAnyH_take (i := 15) (v := .pointer (some b)) rfl (by kernel_rfl) (by kernel_rfl) (by kernel_rfl) (fun _ _ _ h => h) (Or.inl ⟨by rfl, ?_⟩) hHeld ?_
          · intro w' hSw; go_simp
          try simp only [Act.put, List.getElem_toArray, List.getElem_cons_succ, List.getElem_cons_zero, List.setIfInBounds_toArray, List.set_cons_zero, List.set_cons_succ]
          refine wpAnyH_take (i := 16) (v := .int .i64 0) rfl (by kernel_rfl) (by kernel_rfl) (by kernel_rfl) (fun _ _ _ h => h) (Or.inl ⟨by rfl, ?_⟩) hHeld ?_
          · intro w' hSw; go_simp
          try simp only [Act.put, List.getElem_toArray, List.getElem_cons_succ, List.getElem_cons_zero, List.setIfInBounds_toArray, List.set_cons_zero, List.set_cons_succ]
          refine wpAnyH_take (i := 17) (v := .pointer (some b)) rfl (by kernel_rfl) (by kernel_rfl) (by kernel_rfl) (fun _ _ _ h => h) (Or.inl ⟨by rfl, ?_⟩) hHeld ?_
          · intro w' hSw; go_simp
          try simp only [Act.put, List.getElem_toArray, List.getElem_cons_succ, List.getElem_cons_zero, List.setIfInBounds_toArray, List.set_cons_zero, List.set_cons_succ]
          refine wpAnyH_done (by kernel_rfl) ?_ _
          clear hHeld hBr2 hBr hKb hVb
          go_wp2_with fail
          go_roundw
          case rel => exact ⟨k + 1, by omega, by go_num, HB2.out, Ht2.out⟩
          case measure => simp [intOf]; omega
      have hbrun : (Instr.buildSlice 30 1 #[(0, .int .u8 (c - 97 + 49).toNat)]).run Try.prog wr.drew = .ok (.slice (some ⟨wr.drew.heap.size, 0, none⟩) 1 1) (wr.drew.alloc (.cells #[.int .u8 (c - 97 + 49).toNat] 5)) := by go_simp
      have hBB : Below wr.heap.size wr (wr.drew.alloc (.cells #[.int .u8 (c - 97 + 49).toNat] 5)) := (Below.drew (Below.refl _ _)).alloc (Nat.le_refl _) _
      have hVa := CellsAt.newAt wr.drew [.int .u8 (c - 97 + 49).toNat] 5 rfl
      have hszA : (wr.drew.alloc (.cells #[.int .u8 (c - 97 + 49).toNat] 5)).heap.size = wr.heap.size + 1 := by simp
      refine allVal rfl (by kernel_rfl) (execBuild hbrun rfl (by kernel_rfl)) hBB ?_ AllReadyH.nil
      try simp only [Act.put, List.getElem_toArray, List.getElem_cons_succ, List.getElem_cons_zero, List.setIfInBounds_toArray, List.set_cons_zero, List.set_cons_succ]
      generalize wr.drew.alloc (.cells #[.int .u8 (c - 97 + 49).toNat] 5) = wA at *
      obtain ⟨cap1, wB, hrB, hBB2, hsB, hl1, hm1, hcB⟩ := hcv wA
      have hBr : Below wr.heap.size wr wB := hBB.trans (hBB2.mono (by omega))
      have hVb : Bytes wr.heap.size (wr.heap.size + 1) wB (.slice (some ⟨wr.heap.size, 0, none⟩) 1 1) [c - 97 + 49] :=
        (Bytes.ofCells (c := 1) (l := [c - 97 + 49]) (lo := wr.heap.size) (hi := wr.heap.size + 1) hVa (Nat.le_refl _) (Nat.lt_succ_self _) (by simp) (by decide)).below (flat_loc _) hBB2 (by omega)
      have hKb : Bytes wA.heap.size (wA.heap.size + 1) wB (.slice (some ⟨wA.heap.size, 0, none⟩) 1 cap1) [c] :=
        Bytes.ofCells (c := cap1) (l := [c]) (lo := wA.heap.size) (hi := wA.heap.size + 1) hcB (Nat.le_refl _) (Nat.lt_succ_self _) hl1 hm1
      have hszB : wB.heap.size = wA.heap.size + 1 := hsB
      have hrB' : (convert 9 30 (.string ⟨#[c]⟩)).run Try.prog wA = .ok (.slice (some ⟨wA.heap.size, 0, none⟩) 1 cap1) wB := hrB
      clear hrB hcB hVa hsB
      refine wpAnyH_ready (rs := [6]) (by kernel_rfl) (by simp) ?_
      refine allVal (v := .slice (some ⟨wA.heap.size, 0, none⟩) 1 cap1) (w' := wB) rfl (by kernel_rfl) ?_ hBr ?_ AllReadyH.nil
      · clear hszA hszB
        go_simp
      try simp only [Act.put, List.getElem_toArray, List.getElem_cons_succ, List.getElem_cons_zero, List.setIfInBounds_toArray, List.set_cons_zero, List.set_cons_succ]
      refine wpAnyH_ready (rs := [13]) (by kernel_rfl) (by simp) ?_
      refine allCall (f := 10) (args := #[.pointer q3, .slice (some ⟨wA.heap.size, 0, none⟩) 1 cap1, .slice (some ⟨wr.heap.size, 0, none⟩) 1 1]) rfl (by kernel_rfl) ?_ ?_ AllReadyH.nil
      · kernel_rfl
      · refine Put_any Nn w.heap.size wA.heap.size (wA.heap.size + 1) wr.heap.size (wr.heap.size + 1) (ofT (s.take k)) [c] [c - 97 + 49] _ _ _ _ (Nn.lt _) (Nat.le_trans hsz hBr.size) (Ht.out.step (Nn.lt _) hsz hBr) hKb hVb (by omega) (by omega) (by have := Hgr.out.many; omega) _ (fun h => absurd h (by simp)) (fun _ _ w2 b hB2 hlo2 ht2 => ?_)
        have hBr2 := hBr.trans (hB2.mono hBr.size)
        refine ⟨_, rfl, hBr2, ?_⟩
        rw [← Hnext.out] at ht2
        have Ht2 := Lib.hid ht2
        have HB2 := Lib.hid (HB.out.trans (hBr2.mono hsz))
        have hHeld := hBr2
        clear ht2 hB2
        try simp only [Act.put, List.getElem_toArray, List.getElem_cons_succ, List.getElem_cons_zero, List.setIfInBounds_toArray, List.set_cons_zero, List.set_cons_succ]
        refine wpAnyH_take (i := 14) (v := .tuple #[.pointer (some b), .int .i64 0]) rfl (by kernel_rfl) (by kernel_rfl) (by kernel_rfl) (fun _ _ _ h => h) (Or.inl ⟨by rfl, ?_⟩) hHeld ?_
        · intro w' hSw; go_simp
        try simp only [Act.put, List.getElem_toArray, List.getElem_cons_succ, List.getElem_cons_zero, List.setIfInBounds_toArray, List.set_cons_zero, List.set_cons_succ]
        refine wpAnyH_take (i := 15) (v := .pointer (some b)) rfl (by kernel_rfl) (by kernel_rfl) (by kernel_rfl) (fun _ _ _ h => h) (Or.inl ⟨by rfl, ?_⟩) hHeld ?_
        · intro w' hSw; go_simp
        try simp only [Act.put, List.getElem_toArray, List.getElem_cons_succ, List.getElem_cons_zero, List.setIfInBounds_toArray, List.set_cons_zero, List.set_cons_succ]
        refine wpAnyH_take (i := 16) (v := .int .i64 0) rfl (by kernel_rfl) (by kernel_rfl) (by kernel_rfl) (fun _ _ _ h => h) (Or.inl ⟨by rfl, ?_⟩) hHeld ?_
        · intro w' hSw; go_simp
        try simp only [Act.put, List.getElem_toArray, List.getElem_cons_succ, List.getElem_cons_zero, List.setIfInBounds_toArray, List.set_cons_zero, List.set_cons_succ]
        refine wpAnyH_take (i := 17) (v := .pointer (some b)) rfl (by kernel_rfl) (by kernel_rfl) (by kernel_rfl) (fun _ _ _ h => h) (Or.inl ⟨by rfl, ?_⟩) hHeld ?_
        · intro w' hSw; go_simp
        try simp only [Act.put, List.getElem_toArray, List.getElem_cons_succ, List.getElem_cons_zero, List.setIfInBounds_toArray, List.set_cons_zero, List.set_cons_succ]
        refine wpAnyH_done (by kernel_rfl) ?_ _
        clear hHeld hBr2 hBr hKb hVb
        go_wp2_with fail
        go_roundw
        case rel => exact ⟨k + 1, by omega, by go_num, HB2.out, Ht2.out⟩
        case measure => simp [intOf]; omega
    · have hks : k = s.length := by omega
      have hr := HR.out _ _ HB.out (by have := Ht.out; rwa [List.take_of_length_le (by omega)] at this)
      have hk1 : ¬ ((k : Int) < (s.length : Int)) := by omega
      subst hks
      go_wp2_with fail
      first | exact hr | exact fin hr rfl

set_option maxRecDepth 100000 in
set_option maxHeartbeats 4000000 in
theorem told_any (lo hi : Nat) (kv vv : Value) (a b k v : List UInt8) (is : Bool) (w : World) (ha : Bytes lo hi w kv a) (hb : Bytes lo hi w vv b) (hhi : hi ≤ w.heap.size) (R : Ending → World → Prop)
    (hR : ∀ w', Below w.heap.size w w' → R (.returned (.bool (is && (a == k) && (b == v)))) w') : Calls Try.prog 19 #[.agg #[kv, vv], .bool is, .string ⟨k.toArray⟩, .string ⟨v.toArray⟩] w R := by
  have hB : Below w.heap.size w (w.alloc (.cells #[kv, vv] 43)) := (Below.refl _ _).alloc (Nat.le_refl _) _
  have hc := CellsAt.new w [kv, vv] 43
  have hr := hR _ hB
  have c1 := str (Sl.below ha (flat_loc _) hB hhi)
  have c2 := str (Sl.below hb (flat_loc _) hB hhi)
  obtain ⟨aa, ca, rfl, -, -, -⟩ := ha.form
  obtain ⟨ab, cb, rfl, -, -, -⟩ := hb.form
  obtain ⟨x0, x1⟩ := hc.c2
  clear ha hb hR hB hc
  go_enter Try.func19, Try.ntmps19
  cases is
  · go_wp2_with fail
    all_goals first | exact hr | exact fin hr rfl
  · cases e1 : (a == k)
    · rw [e1] at hr
      go_wp2_with fail
      all_goals first | exact hr | exact fin hr rfl
    · rw [e1] at hr
      cases e2 : (b == v)
      · rw [e2] at hr
        go_wp2_with fail
        all_goals first | exact hr | exact fin hr rfl
      · rw [e2] at hr
        go_wp2_with fail
        all_goals first | exact hr | exact fin hr rfl

/-- '[]byte("c")' of a constant of one letter. -/
theorem constB (w : World) (c : UInt8) : ∃ w', (convert 30 30 (.slice (some ⟨w.heap.size, 0, none⟩) 1 1)).run Try.prog (w.alloc (.cells #[.int .u8 c.toNat] 5)) = .ok (.slice (some ⟨w.heap.size, 0, none⟩) 1 1) w' ∧
    Below w.heap.size w w' ∧ w'.heap.size = w.heap.size + 1 ∧ Bytes w.heap.size (w.heap.size + 1) w' (.slice (some ⟨w.heap.size, 0, none⟩) 1 1) [c] := by
  refine ⟨_, Lib.run_convert_bytes_const (P := Try.prog) w 30 5 #[.int .u8 c.toNat] 1 1 Try.underlying30 Try.underlying5, (Below.refl _ _).alloc (Nat.le_refl _) _, by simp, ?_⟩
  refine Bytes.ofCells (c := 1) (l := [c]) (fun j v hj => ?_) (Nat.le_refl _) (Nat.lt_succ_self _) (by simp) (by decide)
  have h0 : j = 0 := by have := (List.getElem?_eq_some_iff.1 hj).1; simp [bE] at this; exact this
  subst h0
  simp only [List.flatMap_cons, List.flatMap_nil, bE, List.append_nil, List.getElem?_cons_zero, Option.some.injEq] at hj
  subst hj
  simp only [World.cell?, Nat.zero_add, World.alloc_heap_new]
  rfl
theorem dabRank : (ofT [100, 97, 98]).rank [99] = 2 := by decide
theorem dabRank0 : (ofT [100, 97, 98]).rank [97] = 0 := by decide
theorem dabMany : (ofT [100, 97, 98]).many = 3 := by decide
theorem dabAt2 : (ofT [100, 97, 98]).at 2 = ([100], [52]) := by decide
theorem dabAt1 : (ofT [100, 97, 98]).at 1 = ([98], [50]) := by decide
set_option maxRecDepth 100000 in
set_option maxHeartbeats 4000000 in
theorem alive_any (w : World) (R : Ending → World → Prop) (hR : ∀ w', Below w.heap.size w w' → R (.returned (.bool true)) w') : Calls Try.prog 12 #[] w R := by
  have HR := Lib.hid hR
  clear hR
  have hgr := ofT_gr [100, 97, 98] 3 (Nat.le_refl _)
  rw [show [100, 97, 98].take 3 = ([100, 97, 98] : List UInt8) from rfl] at hgr
  have hrk := dabRank
  have hrk0 := dabRank0
  have hmy := dabMany
  have ha2 := dabAt2
  have ha1 := dabAt1
  go_enter Try.func12, Try.ntmps12
  go_wp2_with fail
  refine of_any [100, 97, 98] (by decide) w _ (fun w1 p1 hB1 ht1 => ?_)
  generalize ofT [100, 97, 98] = t at *
  obtain ⟨q1, rfl⟩ := ht1.ptr2
  have Ht1 := Lib.hid ht1
  have HB1 := Lib.hid hB1
  have Hgr := Lib.hid hgr
  have Hrk := Lib.hid hrk
  have Hrk0 := Lib.hid hrk0
  have Hmy := Lib.hid hmy
  have Ha2 := Lib.hid ha2
  have Ha1 := Lib.hid ha1
  clear ht1 hB1 hgr hrk hrk0 hmy ha2 ha1
  obtain ⟨wK1, hcwK1, hBwK1, hswK1, hKbwK1⟩ := constB w1 99
  have hsw1 := HB1.out.size
  have htwK1 := Ht1.out.step (Nn.lt _) hsw1 hBwK1
  have HBwK1 := Lib.hid (HB1.out.trans (hBwK1.mono hsw1))
  have HTwK1 := Lib.hid htwK1
  have hszwK1 := HBwK1.out.size
  have HswK1 := Lib.hid hswK1
  have HKbwK1 := Lib.hid hKbwK1
  have hc2wK1 : (convert 30 30 (.slice (some ⟨w1.heap.size, 0, none⟩) 1 1)).run Try.prog (w1.alloc (.cells #[.int .u8 99] 5)) = .ok (.slice (some ⟨w1.heap.size, 0, none⟩) 1 1) wK1 := hcwK1
  clear hswK1 hcwK1 htwK1 hKbwK1
  go_wp2_with fail
  refine Seek_any Nn w.heap.size _ _ t [99] (.pointer q1) _ wK1 (Nn.lt _) hszwK1 HTwK1.out HKbwK1.out (by have h1 := HswK1.out; omega) (by have := Hmy.out; omega) Hgr.out.len8 _ (fun hno wS1 hBS => ?_) (fun n en hn wS1 k2 v2 hBS ho1 ho2 hap => ?_)
  · have h1 := Hrk.out
    have h2 := Hmy.out
    rw [h1, h2] at hno
    omega
  · have hn2 : n = 2 := by have h1 := Hrk.out; omega
    subst hn2
    rw [Ha2.out] at ho1 ho2
    have hkb := OwnB.bytes ho1
    have hvb := OwnB.bytes ho2
    obtain ⟨pk, pkc, rfl, -, -, -⟩ := hkb.form
    obtain ⟨pv, pvc, rfl, -, -, -⟩ := hvb.form
    have hBX : Below wS1.heap.size wS1 (wS1.alloc (.cells #[.slice pk 1 pkc, .slice pv 1 pvc] 43)) := (Below.refl _ _).alloc (Nat.le_refl _) _
    have hkX := hkb.below (flat_loc _) hBX (Nat.le_refl _)
    have hvX := hvb.below (flat_loc _) hBX (Nat.le_refl _)
    have hbk := Blk.new wS1 [.slice pk 1 pkc, .slice pv 1 pvc] 43 rfl
    have hsX : (wS1.alloc (.cells #[.slice pk 1 pkc, .slice pv 1 pvc] 43)).heap.size = wS1.heap.size + 1 := by simp
    have hsS := hBS.size
    have HTwX1 := Lib.hid (((HTwK1.out.step (Nn.lt _) hszwK1 hBS).step (Nn.lt _) (by omega) hBX))
    have HBwX1 := Lib.hid ((HBwK1.out.trans (hBS.mono hszwK1)).trans (hBX.mono (by omega)))
    obtain ⟨wX1, ewX1⟩ : ∃ x, x = wS1.alloc (.cells #[.slice pk 1 pkc, .slice pv 1 pvc] 43) := ⟨_, rfl⟩
    rw [← ewX1] at hBX hkX hvX hbk hsX HTwX1 HBwX1
    have Hk1 := Lib.hid (hkX.mono (flat_loc _) (Nat.zero_le _) (by omega : wS1.heap.size ≤ wX1.heap.size))
    have Hv1 := Lib.hid (hvX.mono (flat_loc _) (Nat.zero_le _) (by omega : wS1.heap.size ≤ wX1.heap.size))
    have Hb1 := Lib.hid hbk
    clear ho1 ho2 hap hkb hvb hkX hvX hbk hBX en hn hBS
    obtain ⟨wK2, hcwK2, hBwK2, hswK2, hKbwK2⟩ := constB wX1 99
    have hswX1 := HBwX1.out.size
    have htwK2 := HTwX1.out.step (Nn.lt _) hswX1 hBwK2
    have HBwK2 := Lib.hid (HBwX1.out.trans (hBwK2.mono hswX1))
    have HTwK2 := Lib.hid htwK2
    have hszwK2 := HBwK2.out.size
    have HswK2 := Lib.hid hswK2
    have HKbwK2 := Lib.hid hKbwK2
    have hc2wK2 : (convert 30 30 (.slice (some ⟨wX1.heap.size, 0, none⟩) 1 1)).run Try.prog (wX1.alloc (.cells #[.int .u8 99] 5)) = .ok (.slice (some ⟨wX1.heap.size, 0, none⟩) 1 1) wK2 := hcwK2
    clear hswK2 hcwK2 htwK2 hKbwK2
    subst ewX1
    rw [hsX] at hc2wK2 HKbwK2
    have HsX := Lib.hid hsX
    clear hsX
    go_wp2_with fail
    refine Back_any Nn w.heap.size _ _ t [99] (.pointer q1) _ wK2 (Nn.lt _) hszwK2 HTwK2.out HKbwK2.out (by have h1 := HswK2.out; have h2 := HsX.out; omega) (by have := Hmy.out; omega) Hgr.out.len8 _ (fun hno wS2 hBS => ?_) (fun n en hn wS2 k2 v2 hBS ho1 ho2 hap => ?_)
    · have h1 := Hrk.out
      have h2 := Hmy.out
      rw [h1, h2] at hno
      omega
    · have HBq := Lib.hid (hBwK2.trans (hBS.mono hBwK2.size))
      have hn2 : n = 1 := by have h1 := Hrk.out; omega
      subst hn2
      rw [Ha1.out] at ho1 ho2
      have hkb := OwnB.bytes ho1
      have hvb := OwnB.bytes ho2
      obtain ⟨rk, rkc, rfl, -, -, -⟩ := hkb.form
      obtain ⟨rv, rvc, rfl, -, -, -⟩ := hvb.form
      have hBX : Below wS2.heap.size wS2 (wS2.alloc (.cells #[.slice rk 1 rkc, .slice rv 1 rvc] 43)) := (Below.refl _ _).alloc (Nat.le_refl _) _
      have hkX := hkb.below (flat_loc _) hBX (Nat.le_refl _)
      have hvX := hvb.below (flat_loc _) hBX (Nat.le_refl _)
      have hbk := Blk.new wS2 [.slice rk 1 rkc, .slice rv 1 rvc] 43 rfl
      have hsX : (wS2.alloc (.cells #[.slice rk 1 rkc, .slice rv 1 rvc] 43)).heap.size = wS2.heap.size + 1 := by simp
      have hsS := hBS.size
      have HTwX2 := Lib.hid (((HTwK2.out.step (Nn.lt _) hszwK2 hBS).step (Nn.lt _) (by omega) hBX))
      have HBwX2 := Lib.hid ((HBwK2.out.trans (hBS.mono hszwK2)).trans (hBX.mono (by omega)))
      obtain ⟨wX2, ewX2⟩ : ∃ x, x = wS2.alloc (.cells #[.slice rk 1 rkc, .slice rv 1 rvc] 43) := ⟨_, rfl⟩
      rw [← ewX2] at hBX hkX hvX hbk hsX HTwX2 HBwX2
      have Hk2 := Lib.hid (hkX.mono (flat_loc _) (Nat.zero_le _) (by omega : wS2.heap.size ≤ wX2.heap.size))
      have Hv2 := Lib.hid (hvX.mono (flat_loc _) (Nat.zero_le _) (by omega : wS2.heap.size ≤ wX2.heap.size))
      have Hb2 := Lib.hid hbk
      clear ho1 ho2 hap hkb hvb hkX hvX hbk hBX en hn hBS
      obtain ⟨wK3, hcwK3, hBwK3, hswK3, hKbwK3⟩ := constB wX2 97
      have hswX2 := HBwX2.out.size
      have htwK3 := HTwX2.out.step (Nn.lt _) hswX2 hBwK3
      have HBwK3 := Lib.hid (HBwX2.out.trans (hBwK3.mono hswX2))
      have HTwK3 := Lib.hid htwK3
      have hszwK3 := HBwK3.out.size
      have HswK3 := Lib.hid hswK3
      have HKbwK3 := Lib.hid hKbwK3
      have hc2wK3 : (convert 30 30 (.slice (some ⟨wX2.heap.size, 0, none⟩) 1 1)).run Try.prog (wX2.alloc (.cells #[.int .u8 97] 5)) = .ok (.slice (some ⟨wX2.heap.size, 0, none⟩) 1 1) wK3 := hcwK3
      clear hswK3 hcwK3 htwK3 hKbwK3
      have hB12 : Below wS2.heap.size wS2 wK3 := by
        rw [ewX2] at hBwK3
        exact ((Below.refl _ _).alloc (Nat.le_refl _) _).trans (hBwK3.mono (by simp))
      subst ewX2
      rw [hsX] at hc2wK3 HKbwK3
      have HsX2 := Lib.hid hsX
      clear hsX
      go_wp2_with fail
      refine Back_any Nn w.heap.size _ _ t [97] (.pointer q1) _ wK3 (Nn.lt _) hszwK3 HTwK3.out HKbwK3.out (by have h1 := HswK3.out; have h2 := HsX2.out; omega) (by have := Hmy.out; omega) Hgr.out.len8 _ (fun hno wS3 hBS3 => ?_) (fun n en hn wS3 k2 v2 hBS ho1 ho2 hap => ?_)
      · clear hno
        have hsS3 := hBS3.size
        have hBX3 : Below wS3.heap.size wS3 (wS3.alloc (.cells #[.slice none 0 0, .slice none 0 0] 43)) := (Below.refl _ _).alloc (Nat.le_refl _) _
        have hB13 : Below wS2.heap.size wS2 (wS3.alloc (.cells #[.slice none 0 0, .slice none 0 0] 43)) := (hB12.trans (hBS3.mono hB12.size)).trans (hBX3.mono (Nat.le_trans hB12.size hsS3))
        have hq := HBq.out.size
        have hb12 := hB12.size
        have hbp := (Hb1.out.below HBq.out Hb1.out.lt).below hB13 (Nat.lt_of_lt_of_le Hb1.out.lt hq)
        have hbr := Hb2.out.below (w' := wS3.alloc (.cells #[.slice none 0 0, .slice none 0 0] 43)) (B := wS2.heap.size + 1) ((hBwK3.mono (by rw [HsX2.out]; exact Nat.le_refl _)).trans ((hBS3.mono (by have h1 := HswK3.out; have h2 := HsX2.out; omega)).trans (hBX3.mono (by have h1 := HswK3.out; have h2 := HsX2.out; omega)))) (Nat.lt_succ_self _)
        obtain ⟨p0, p1⟩ := hbp.cells.c2
        obtain ⟨r0, r1⟩ := hbr.cells.c2
        have hkp := Lib.hid ((Sl.below (Sl.below Hk1.out (flat_loc _) HBq.out (Nat.le_refl _)) (flat_loc _) hB13 hq))
        have hvp := Lib.hid ((Sl.below (Sl.below Hv1.out (flat_loc _) HBq.out (Nat.le_refl _)) (flat_loc _) hB13 hq))
        have hkr := Lib.hid (Sl.below Hk2.out (flat_loc _) (((hBwK3).trans ((hBS3.mono hBwK3.size).trans (hBX3.mono (Nat.le_trans hBwK3.size hsS3))))) (Nat.le_refl _))
        have hvr := Lib.hid (Sl.below Hv2.out (flat_loc _) (((hBwK3).trans ((hBS3.mono hBwK3.size).trans (hBX3.mono (Nat.le_trans hBwK3.size hsS3))))) (Nat.le_refl _))
        have HTe := Lib.hid ((HTwK3.out.step (Nn.lt _) hszwK3 hBS3).step (Nn.lt _) (Nat.le_trans hszwK3 hsS3) hBX3)
        have HBe := Lib.hid ((HBwK3.out.trans (hBS3.mono hszwK3)).trans (hBX3.mono (Nat.le_trans hszwK3 hsS3)))
        have hse1 : (wS1.alloc (.cells #[.slice pk 1 pkc, .slice pv 1 pvc] 43)).heap.size ≤ (wS3.alloc (.cells #[.slice none 0 0, .slice none 0 0] 43)).heap.size := Nat.le_trans hq hB13.size
        have hse2 : (wS2.alloc (.cells #[.slice rk 1 rkc, .slice rv 1 rvc] 43)).heap.size ≤ (wS3.alloc (.cells #[.slice none 0 0, .slice none 0 0] 43)).heap.size := Nat.le_trans hBwK3.size (Nat.le_trans hsS3 hBX3.size)
        have Hse1 := Lib.hid hse1
        have Hse2 := Lib.hid hse2
        clear hbp hbr hB13 hBX3 hBS3 hsS3 hq hb12 hB12 hBwK3 hBwK2 hBwK1 hse1 hse2
        go_wp2_with fail
        generalize wS3.alloc (.cells #[.slice none 0 0, .slice none 0 0] 43) = wE at *
        have hbr1 : wS2.heap.size < wE.heap.size := by
          have h1 := Hse2.out
          have h2 := HsX2.out
          omega
        refine told_any 0 _ _ _ [100] [52] [100] [52] true wE hkp.out hvp.out Hse1.out _ (fun wT hBT => ?_)
        rw [show (true && (([100] : List UInt8) == [100]) && (([52] : List UInt8) == [52])) = true by decide]
        have r0' := (World.cell?_of_block (hBT.block _ hbr1)).trans r0
        have r1' := (World.cell?_of_block (hBT.block _ hbr1)).trans r1
        have hkr2 := Lib.hid (Sl.below hkr.out (flat_loc _) hBT Hse2.out)
        have hvr2 := Lib.hid (Sl.below hvr.out (flat_loc _) hBT Hse2.out)
        have hszT := hBT.size
        have HTT := Lib.hid (HTe.out.step (Nn.lt _) HBe.out.size hBT)
        have HBT := Lib.hid (HBe.out.trans (hBT.mono HBe.out.size))
        clear p0 p1 r0 r1 hBT hkr hvr HTe HBe
        go_wp2_with fail
        refine told_any 0 _ _ _ [98] [50] [98] [50] true wT hkr2.out hvr2.out (Nat.le_trans Hse2.out hszT) _ (fun wU hBU => ?_)
        rw [show (true && (([98] : List UInt8) == [98]) && (([50] : List UInt8) == [50])) = true by decide]
        have hr := HR.out wU (HBT.out.trans (hBU.mono HBT.out.size))
        have htU := HTT.out.step (Nn.lt _) HBT.out.size hBU
        clear r0' r1' hkr2 hvr2
        go_wp2_with fail
        refine Len_any Nn w.heap.size t (.pointer q1) wU htU _ ?_
        have h3 := Hmy.out
        rw [h3]
        go_wp2_with fail
        first | exact hr | exact fin hr rfl
      · have h1 := Hrk0.out
        omega

theorem Put_g (lo klo khi vlo vhi n : Nat) (t : T) (k v : List UInt8) (p kv vv : Value) (w : World) (hlo : lo ≤ w.heap.size) (ht : Tr Nn lo w t p) (hk : Bytes klo khi w kv k) (hv : Bytes vlo vhi w vv v)
    (hkhi : khi ≤ w.heap.size) (hvhi : vhi ≤ w.heap.size) (hg : Gr t n) (hm : n ≤ 1000000) :
    Calls Try.prog 10 #[p, kv, vv] w fun e w' => ∃ pq ec t', e = .returned (.tuple #[.pointer pq, .int .i64 ec]) ∧ Below w.heap.size w w' ∧ lo ≤ w'.heap.size ∧ (ec = 0 ∧ Tr Nn lo w' t' (.pointer pq) ∧ Gr t' (n + 1) ∨ ec = 100) :=
  Put_any Nn lo klo khi vlo vhi t k v p kv vv w (Nn.lt lo) hlo ht hk hv hkhi hvhi (Nat.le_trans hg.many hm) _ (fun _ => ⟨_, _, t, rfl, Below.refl _ _, hlo, .inr rfl⟩)
    (fun h1 h2 w' b hB hlo' ht' => ⟨_, _, _, rfl, hB, hlo', .inl ⟨rfl, ht', hg.put _ _ h1 h2⟩⟩)

set_option maxRecDepth 100000 in
set_option maxHeartbeats 4000000 in
theorem grown_any (lo hi : Nat) (l : List OpV) (v : Value) (w : World) (hv : Sl opE 6 lo hi w v l) (hhi : hi ≤ w.heap.size) (hll : l.length ≤ 100)
    (R : Ending → World → Prop) (hR : ∀ w' p t, Below w.heap.size w w' → Tr Nn w.heap.size w' t p → Gr t l.length → R (.returned p) w') : Calls Try.prog 13 #[v] w R := by
  have HR := Lib.hid hR
  obtain ⟨ao, cap, rfl, hl1, hl2, -, hc⟩ := hv.form
  have Hc := Lib.hid hc
  clear hc hv hR
  go_enter Try.func13, Try.ntmps13
  go_wp2_with fail
  go_loopw [3, 9] (fun t3 t9 wr => ∃ (k : Nat) (t : T), k ≤ l.length ∧ t9 = .int .i64 k ∧ Below w.heap.size w wr ∧ Tr Nn w.heap.size wr t t3 ∧ Gr t k) (fun _ t9 _ => l.length - (intOf t9).toNat)
  case atStart => exact ⟨0, .nil, Nat.zero_le _, rfl, Below.refl _ _, .inl ⟨rfl, rfl⟩, Gr.nil⟩
  case round =>
    obtain ⟨k, t, hk, rfl, hB, ht, hg⟩ := hrel
    by_cases hlt : k < l.length
    · obtain ⟨b, off, rfl, hb1, hb2, hcc⟩ := Hc.out k hlt
      obtain ⟨cs, -, hcs, kv, vv, tv, rfl, h1, h2, h3⟩ := hcc k hlt
      have hA : Agree lo hi w wr := .below hB hhi
      obtain ⟨c0, c1, c2, c3, c4, c5⟩ := (hcs.agree hA hb1 hb2).c6
      have H1 := Lib.hid (Sl.agree h1 (flat_loc _) hA)
      have H2 := Lib.hid (Sl.agree h2 (flat_loc _) hA)
      have Ht := Lib.hid ht
      have Hg := Lib.hid hg
      clear hcs hcc ht hg
      obtain ⟨a1, p1, rfl, -, -, -⟩ := h1.form
      obtain ⟨a2, p2, rfl, -, -, -⟩ := h2.form
      clear h1 h2 h3
      obtain ⟨q7, rfl⟩ := Ht.out.ptr2
      have hB0 := hB
      have hkeep : ∀ w', Below wr.heap.size wr w' → (Below wr.heap.size wr w' ∧ w'.cell? ⟨b, off + k * 6 + 2, none⟩ = some (.slice a1 l[k].key.length p1) ∧ w'.cell? ⟨b, off + k * 6 + 3, none⟩ = some (.slice a2 l[k].value.length p2)) := fun w' h => ⟨h, by rw [World.cell?_of_block (h.block b (by have := hB.size; omega))]; exact c2, by rw [World.cell?_of_block (h.block b (by have := hB.size; omega))]; exact c3⟩
      have hs1 := hB.size
      have hk100 : k ≤ 1000000 := by omega
      have hhi2 := Nat.le_trans hhi hs1
      by_cases hkind : l[k].kind = 1
      · rw [hkind] at c0
        have hm := Hg.out.many
        have HB0 := Lib.hid hB0
        clear hB hB0
        go_wp2_with fail
        refine Cut_any Nn w.heap.size lo hi t l[k].key _ _ wr (Nn.lt _) hs1 Ht.out H1.out hhi2 (by omega) _ (fun w2 b2 hB2 hlo2 ht2 => ?_)
        have Ht2 := Lib.hid ht2
        have HB2 := Lib.hid (HB0.out.trans (hB2.mono hs1))
        clear ht2 hB2
        go_wp2_with fail
        go_roundw
        case rel => exact ⟨k + 1, t.cut l[k].key, by omega, by go_num, HB2.out, Ht2.out, (Hg.out.cut _).mono (by omega)⟩
        case measure => simp [intOf]; omega
      · go_wp2_with fail
        go_region_held3 (fun w' => Below wr.heap.size wr w' ∧ w'.cell? ⟨b, off + k * 6 + 2, none⟩ = some (.slice a1 l[k].key.length p1) ∧ w'.cell? ⟨b, off + k * 6 + 3, none⟩ = some (.slice a2 l[k].value.length p2))
          ((apply hkeep; first | exact stepS (by assumption) (by assumption) | (repeat (first | exact Below.refl _ _ | apply drewN | apply Below.drew))))
          (first
            | (go_at_call_of 10 (Value.pointer q7)
               refine (Put_g w.heap.size lo hi lo hi k t l[k].key l[k].value _ _ _ _ (szS hs1 (by assumption)) (Ht.out.step (Nn.lt _) hs1 (And.left (by assumption))) (H1.out.below (flat_loc _) (And.left (by assumption)) hhi2) (H2.out.below (flat_loc _) (And.left (by assumption)) hhi2) (szS hhi2 (by assumption)) (szS hhi2 (by assumption)) Hg.out hk100).mono ?_
               rintro e w' ⟨pq, ec, t', rfl, hb', hsz, hcase⟩))
        all_goals have hb2 : Below wr.heap.size wr w' := (Below.refl _ _).drew.trans hb'
        all_goals rcases hcase with ⟨rfl, ht2, hg2⟩ | rfl
        · have Ht2 := Lib.hid ht2
          have Hg2 := Lib.hid hg2
          clear ht2 hg2
          go_wp2_with fail
          go_roundw
          case rel => exact ⟨k + 1, t', by omega, by go_num, hB0.trans (hb2.mono hs1), Ht2.out, Hg2.out⟩
          case measure => simp [intOf]; omega
        · go_wp2_with fail
          go_roundw
          case rel => exact ⟨k + 1, t, by omega, by go_num, hB0.trans (hb2.mono hs1), Ht.out.step (Nn.lt _) hs1 hb2, Hg.out.mono (by omega)⟩
          case measure => simp [intOf]; omega
    · have hks : k = l.length := by omega
      have hr := HR.out _ _ t hB ht (hks ▸ hg)
      have Hr := Lib.hid hr
      clear hr ht hg hB
      go_wp2_with fail
      first | exact Hr.out | exact fin Hr.out rfl
end Go.Proofs.Ytmlcnfomiemdpaa
