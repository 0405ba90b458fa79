/- The walk of TreeLimits. -/
import Derived.Test.YtmlcnfomiemdpaaTreeO
import Derived.Laws.OwnMore
namespace Go.Proofs.Ytmlcnfomiemdpaa
open Go.RowKit
attribute [local go_sem ↓] Go.wp_at_zero Go.wp_at_succ

abbrev No : Nat → Prop := fun _ => False
theorem No.lt (lo : Nat) : ∀ b, No b → b < lo := fun _ h => h.elim
/-- A tree that a law has made. -/
structure Good (t : T) (k : Nat) : Prop where
  rises : Rises t.toL
  many : t.many ≤ k
  value : ∀ x ∈ t.toL, x.2.length ≤ 65536
theorem Good.nil : Good .nil 0 := ⟨List.Pairwise.nil, Nat.le_refl _, fun _ h => by cases h⟩
theorem Good.mono {t : T} {k m : Nat} (h : Good t k) (hk : k ≤ m) : Good t m := ⟨h.rises, Nat.le_trans h.many hk, h.value⟩
theorem Good.put {t : T} {n : Nat} (h : Good t n) (k v : List UInt8) (hv : v.length ≤ 65536) : Good (t.put k v) (n + 1) where
  rises := by rw [T.toL_put _ _ _ h.rises]; exact rises_insL _ _ _ h.rises
  many := by have := t.put_many k v; have := h.many; omega
  value := fun x hx => by
    rw [T.toL_put _ _ _ h.rises] at hx
    rcases mem_insL _ _ _ _ hx with rfl | hx
    · exact hv
    · exact h.value x hx
theorem Good.find {t : T} {n : Nat} (h : Good t n) (k : List UInt8) : ∀ k' v' l r, t.find k = .node k' v' l r → v'.length ≤ 100000000 := fun k' v' l r e => by
  have h1 : t.get k = some v' := by simp [T.get, e]
  rw [T.get_eq _ _ h.rises] at h1
  obtain ⟨k2, h2⟩ := getL_mem _ _ _ h1
  have := h.value _ h2
  simp at this; omega

/-- 'make([]byte, n)'. -/
theorem run_mk (n : Nat) (hn : n ≤ 70000) (w : World) : (Instr.makeSlice 30 (.int .i64 (n : Int)) (.int .i64 (n : Int))).run Try.prog w =
    .ok (.slice (some ⟨w.heap.size, 0, none⟩) n n) (w.alloc (.cells ((List.replicate n (0 : UInt8)).flatMap bE).toArray 5)) := by
  obtain ⟨i0, hi, hz0, hz1, hz2⟩ := info_parts infoB
  have := run_makeSlice (P := Try.prog) w 30 5 i0 (.int .u8 0) Try.underlying30 hi hz0 .i64 .i64 (n : Int) (n : Int) (by omega) (Int.le_refl _) (by rw [hz1]; simp; omega) (by rw [hz2]; omega) (by omega)
  rw [this, hz1]
  simp only [Int.toNat_natCast, Nat.mul_one]
  have e : madeCells (Value.int IntKind.u8 0).cells n = ((List.replicate n (0 : UInt8)).flatMap bE).toArray := by
    apply Array.ext'
    rw [flatMap_bE, List.map_replicate]
    exact toList_madeCells_one _ n
  rw [e]
theorem mk_bytes {w : World} {g n : Nat} (h : CellsAt w g 0 ((List.replicate n (0 : UInt8)).flatMap bE)) (hn : n ≤ 70000) : Bytes g (g + 1) w (.slice (some ⟨g, 0, none⟩) n n) (List.replicate n 0) := by
  have := Bytes.ofCells (c := n) (lo := g) (hi := g + 1) h (Nat.le_refl _) (by omega) (by simp) (by simp only [maxLen]; omega)
  rwa [List.length_replicate] at this

theorem Tr.ptr {B : Nat → Prop} {lo : Nat} {w : World} {t : T} {p : Value} (h : Tr B lo w t p) : ∃ q, p = .pointer q := by
  rcases h with ⟨e, -⟩ | ⟨b, q, e, -⟩
  · exact ⟨_, e⟩
  · exact ⟨_, e⟩
theorem Put_c (lo klo khi vlo vhi n : Nat) (t : T) (k v : List UInt8) (p kv vv : Value) (w : World) (hlo : lo ≤ w.heap.size) (ht : Tr No lo w t p) (hk : Bytes klo khi w kv k) (hv : Bytes vlo vhi w vv v)
    (hkhi : khi ≤ w.heap.size) (hvhi : vhi ≤ w.heap.size) (hg : Good t n) (hm : n ≤ 1000000) :
    Calls Try.prog 10 #[p, kv, vv] w fun e w' => ∃ pq ec t', e = .returned (.tuple #[.pointer pq, .int .i64 ec]) ∧ Below w.heap.size w w' ∧ lo ≤ w'.heap.size ∧ (ec = 0 ∧ Tr No lo w' t' (.pointer pq) ∧ Good t' (n + 1) ∨ ec = 100) :=
  Put_any No lo klo khi vlo vhi t k v p kv vv w (No.lt lo) hlo ht hk hv hkhi hvhi (Nat.le_trans hg.many hm) _ (fun _ => ⟨_, _, t, rfl, Below.refl _ _, hlo, .inr rfl⟩)
    (fun _ h2 w' b hB hlo' ht' => ⟨_, _, _, rfl, hB, hlo', .inl ⟨rfl, ht', hg.put _ _ h2⟩⟩)

set_option maxRecDepth 100000 in
set_option maxHeartbeats 4000000 in
theorem TreeLimits_any (lo hi : Nat) (l : List OpV) (v : Value) (kn vn : Int) (w : World) (hv : Sl opE 6 lo hi w v l) (hhi : hi ≤ w.heap.size) (hk0 : 0 ≤ kn) (hk1 : kn < 4294967296) (hv0 : 0 ≤ vn) (hv1 : vn < 4294967296)
    (R : Ending → World → Prop) (hR : ∀ w', Below w.heap.size w w' → R (.returned (.bool true)) w') : Calls Try.prog 3 #[v, .int .u32 kn, .int .u32 vn] w R := by
  have Hv := Lib.hid hv
  obtain ⟨ao, cap, rfl, hl1, hl2, -, hc⟩ := hv.form
  have Hc := Lib.hid hc
  clear hc hv
  go_enter Try.func3, Try.ntmps3
  go_wp2_with fail
  refine great_any lo hi l _ _ Hv.out _ ?_
  by_cases hgr : (decide (100 < l.length) || l.any OpV.great) = true
  · rw [hgr]
    have hr := hR w (Below.refl _ _)
    go_wp2_with fail
    all_goals first | exact Below.refl _ _ | exact hr | exact fin hr rfl
  rw [Bool.not_eq_true] at hgr
  rw [hgr]
  have Hgr := Lib.hid hgr
  have hll : l.length ≤ 100 := by
    simp only [Bool.or_eq_false_iff, decide_eq_false_iff_not] at hgr; omega
  clear hgr
  go_wp2_with fail
  go_loopw [7, 22] (fun t7 t22 wr => ∃ (k : Nat) (t : T), k ≤ l.length ∧ t22 = .int .i64 k ∧ Below w.heap.size w wr ∧ Tr No w.heap.size wr t t7 ∧ Good t k) (fun _ t22 _ => l.length - (intOf t22).toNat)
  case atStart => exact ⟨0, .nil, Nat.zero_le _, rfl, Below.refl _ _, .inl ⟨rfl, rfl⟩, Good.nil⟩
  case round =>
    obtain ⟨k, t, hk, rfl, hB, ht, hg⟩ := hrel
    by_cases hlt : k < l.length
    · obtain ⟨b, off, rfl, hb1, hb2, hcc⟩ := Hc.out k hlt
      obtain ⟨cs, -, hcs, kv, vv, tv, rfl, h1, h2, h3⟩ := hcc k hlt
      have hA : Agree lo hi w wr := .below hB hhi
      obtain ⟨c0, c1, c2, c3, c4, c5⟩ := (hcs.agree hA hb1 hb2).c6
      have H1 := Lib.hid (Sl.agree h1 (flat_loc _) hA)
      have H2 := Lib.hid (Sl.agree h2 (flat_loc _) hA)
      have Ht := Lib.hid ht
      have Hg := Lib.hid hg
      clear hcs hcc ht hg
      obtain ⟨a1, p1, rfl, -, -, -⟩ := h1.form
      obtain ⟨a2, p2, rfl, -, -, -⟩ := h2.form
      clear h1 h2 h3
      obtain ⟨q7, rfl⟩ := Ht.out.ptr
      have hB0 := hB
      have hkeep : ∀ w', Below wr.heap.size wr w' → (Below wr.heap.size wr w' ∧ w'.cell? ⟨b, off + k * 6 + 2, none⟩ = some (.slice a1 l[k].key.length p1) ∧ w'.cell? ⟨b, off + k * 6 + 3, none⟩ = some (.slice a2 l[k].value.length p2)) := fun w' h => ⟨h, by rw [World.cell?_of_block (h.block b (by have := hB.size; omega))]; exact c2, by rw [World.cell?_of_block (h.block b (by have := hB.size; omega))]; exact c3⟩
      have hs1 := hB.size
      have hk100 : k ≤ 1000000 := by omega
      have hhi2 := Nat.le_trans hhi hs1
      go_wp2_with fail
      go_region_held3 (fun w' => Below wr.heap.size wr w' ∧ w'.cell? ⟨b, off + k * 6 + 2, none⟩ = some (.slice a1 l[k].key.length p1) ∧ w'.cell? ⟨b, off + k * 6 + 3, none⟩ = some (.slice a2 l[k].value.length p2))
        ((apply hkeep; first | exact stepS (by assumption) (by assumption) | (repeat (first | exact Below.refl _ _ | apply drewN | apply Below.drew))))
        (first
          | (go_at_call_of 10 (Value.pointer q7)
             refine (Put_c w.heap.size lo hi lo hi k t l[k].key l[k].value _ _ _ _ (szS hs1 (by assumption)) (Ht.out.step (No.lt _) hs1 (And.left (by assumption))) (H1.out.below (flat_loc _) (And.left (by assumption)) hhi2) (H2.out.below (flat_loc _) (And.left (by assumption)) hhi2) (szS hhi2 (by assumption)) (szS hhi2 (by assumption)) Hg.out hk100).mono ?_
             rintro e w' ⟨pq, ec, t', rfl, hb', hsz, hcase⟩))
      all_goals have hb2 : Below wr.heap.size wr w' := (Below.refl _ _).drew.trans hb'
      all_goals rcases hcase with ⟨rfl, ht2, hg2⟩ | rfl
      · have Ht2 := Lib.hid ht2
        have Hg2 := Lib.hid hg2
        clear ht2 hg2
        go_wp2_with fail
        go_roundw
        case rel => exact ⟨k + 1, t', by omega, by go_num, hB0.trans (hb2.mono hs1), Ht2.out, Hg2.out⟩
        case measure => simp [intOf]; omega
      · go_wp2_with fail
        go_roundw
        case rel => exact ⟨k + 1, t, by omega, by go_num, hB0.trans (hb2.mono hs1), Ht.out.step (No.lt _) hs1 hb2, Hg.out.mono (by omega)⟩
        case measure => simp [intOf]; omega
    · obtain ⟨kk, hkk⟩ : ∃ kk : Nat, kn % 5000 = (kk : Int) := ⟨(kn % 5000).toNat, by omega⟩
      obtain ⟨vk, hvk⟩ : ∃ vk : Nat, vn % 70000 = (vk : Int) := ⟨(vn % 70000).toNat, by omega⟩
      have hmk := fun w => run_mk kk (by omega) w
      have hmv := fun w => run_mk vk (by omega) w
      have Ht := Lib.hid ht
      have Hg := Lib.hid hg
      clear ht hg
      have hm1 := Hg.out.many
      go_wp2_with fail
      have hC1 := CellsAt.newAt wr ((List.replicate kk (0 : UInt8)).flatMap bE) 5 rfl
      have hB1 : Below wr.heap.size wr (wr.alloc (.cells ((List.replicate kk (0 : UInt8)).flatMap bE).toArray 5)) := (Below.refl _ _).alloc (Nat.le_refl _) _
      generalize hw1 : wr.alloc (.cells ((List.replicate kk (0 : UInt8)).flatMap bE).toArray 5) = w1 at *
      have hz1 : w1.heap.size = wr.heap.size + 1 := by subst hw1; exact World.size_alloc _ _
      have hC2 := CellsAt.newAt w1 ((List.replicate vk (0 : UInt8)).flatMap bE) 5 rfl
      have hB2 : Below w1.heap.size w1 (w1.alloc (.cells ((List.replicate vk (0 : UInt8)).flatMap bE).toArray 5)) := (Below.refl _ _).alloc (Nat.le_refl _) _
      generalize hw2 : w1.alloc (.cells ((List.replicate vk (0 : UInt8)).flatMap bE).toArray 5) = w2 at *
      have hz2 : w2.heap.size = w1.heap.size + 1 := by subst hw2; exact World.size_alloc _ _
      have H1 := Lib.hid ((mk_bytes hC1 (by omega)).below (flat_loc _) hB2 (by omega))
      have h2 := mk_bytes hC2 (by omega)
      rw [hz1] at h2
      have H2 := Lib.hid h2
      clear h2
      have Ht2 := Lib.hid ((Ht.out.step (No.lt _) hB.size hB1).step (No.lt _) (by have := hB.size; omega) hB2)
      have hBw : Below w.heap.size w w2 := (hB.trans (hB1.mono hB.size)).trans (hB2.mono (by have := hB.size; omega))
      clear hC1 hC2 Ht hw1 hw2 hmk hmv
      refine Put_any No w.heap.size _ _ _ _ t _ _ _ _ _ w2 (No.lt _) hBw.size Ht2.out H1.out H2.out (by omega) (by omega) (by omega) _ (fun hbad => ?_) (fun hk1 hk2 w3 b hB3 hlo3 ht3 => ?_)
      · rw [List.length_replicate, List.length_replicate] at hbad
        have hr := hR w2 hBw
        by_cases q1 : kk ≤ 4096
        · have q2 : ¬ vk ≤ 65536 := by omega
          have e1 : decide ((kk : Int) ≤ 4096) = true := by simpa using (by omega : (kk : Int) ≤ 4096)
          have e2 : decide ((vk : Int) ≤ 65536) = false := by simpa using (by omega : (65536 : Int) < vk)
          go_wp2_with fail
          all_goals first | exact hBw | exact hr | exact fin hr rfl
        · have e1 : decide ((kk : Int) ≤ 4096) = false := by simpa using (by omega : (4096 : Int) < kk)
          go_wp2_with fail
          all_goals first | exact hBw | exact hr | exact fin hr rfl
      · rw [List.length_replicate] at hk1 hk2
        have e1 : decide ((kk : Int) ≤ 4096) = true := by simpa using (by omega : (kk : Int) ≤ 4096)
        have e2 : decide ((vk : Int) ≤ 65536) = true := by simpa using (by omega : (vk : Int) ≤ 65536)
        have hg2 := Hg.out.put (List.replicate kk 0) (List.replicate vk 0) (by rw [List.length_replicate]; omega)
        have hBw3 : Below w.heap.size w w3 := hBw.trans (hB3.mono hBw.size)
        have H13 := Lib.hid (H1.out.below (flat_loc _) hB3 (by omega))
        have Ht3 := Lib.hid ht3
        have hget : (t.put (List.replicate kk 0) (List.replicate vk 0)).get (List.replicate kk 0) = some (List.replicate vk 0) := by
          rw [T.get_eq _ _ hg2.rises, T.toL_put _ _ _ Hg.out.rises, getL_insL]
        have Hg3 := Lib.hid hget
        clear hget ht3
        go_wp2_with fail
        refine Get_any No w.heap.size _ _ _ _ _ _ w3 (No.lt _) hBw3.size Ht3.out H13.out _ (fun hno => ?_) (fun k' v' l' r' hyes hv' w4 v2 hB4 ho4 => ?_) (hg2.find _)
        · have := Hg3.out
          simp [T.get, hno] at this
        · have hv2 : v' = List.replicate vk 0 := by
            have := Hg3.out
            simpa [T.get, hyes] using this
          subst hv2
          have hr := hR w4 (hBw3.trans (hB4.mono hBw3.size))
          obtain ⟨a2, p2, rfl, -, -, -⟩ := ho4.bytes.form
          rw [List.length_replicate]
          have hBw4 := hBw3.trans (hB4.mono hBw3.size)
          go_wp2_with fail
          all_goals first | exact hBw4 | exact hr | exact fin hr rfl
end Go.Proofs.Ytmlcnfomiemdpaa
