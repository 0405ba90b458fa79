/- A disk that is up and has no fuse: Write and Flush as they are then. -/
import Derived.Test.YtfmpafheodpfoaaDiskDi
namespace Go.Proofs.Ytfmpafheodpfoaa
open Go.RowKit Go.Shelf

def Dk.fresh (n : Nat) : Dk := ⟨List.replicate n zeroS, List.replicate n [], -1, false, 0⟩
def Dk.wr (d : Dk) (i : Nat) (b : List UInt8) : Dk := ⟨d.safe, d.writes.set i (d.writes.getD i [] ++ [b]), d.fuse, d.down, d.ops + 1⟩
def Dk.fl (d : Dk) : Dk := (⟨d.safe, d.writes, d.fuse, d.down, d.ops + 1⟩ : Dk).upTo d.last d.safe.length
structure Calm (d : Dk) (n k : Nat) : Prop where
  len : d.safe.length = n
  lenW : d.writes.length = n
  up : d.down = false
  fuse : d.fuse = -1
  ops : 0 ≤ d.ops ∧ d.ops ≤ k
  few : ∀ l ∈ d.writes, l.length ≤ k
theorem Calm.fresh (n : Nat) : Calm (Dk.fresh n) n 0 := ⟨by simp [Dk.fresh], by simp [Dk.fresh], rfl, rfl, ⟨by simp [Dk.fresh], by simp [Dk.fresh]⟩, fun l hl => by rw [(List.mem_replicate.1 hl).2]; exact Nat.le_refl _⟩
theorem Calm.mono {d : Dk} {n k m : Nat} (h : Calm d n k) (hk : k ≤ m) : Calm d n m := ⟨h.len, h.lenW, h.up, h.fuse, ⟨h.ops.1, by have := h.ops.2; omega⟩, fun l hl => Nat.le_trans (h.few l hl) hk⟩
theorem Calm.wr {d : Dk} {n k : Nat} (h : Calm d n k) (i : Nat) (hi : i < n) (b : List UInt8) : Calm (d.wr i b) n (k + 1) where
  len := h.len
  lenW := by simp [Dk.wr, h.lenW]
  up := h.up
  fuse := h.fuse
  ops := by have := h.ops; simp only [Dk.wr]; omega
  few := fun l hl => by
    rcases List.mem_or_eq_of_mem_set hl with e | e
    · have := h.few l e; omega
    · have hi2 : i < d.writes.length := by rw [h.lenW]; exact hi
      have := h.few (d.writes.getD i []) (by rw [show d.writes.getD i [] = d.writes[i] by simp [List.getD, List.getElem?_eq_getElem hi2]]; exact List.getElem_mem _)
      rw [e, List.length_append, List.length_singleton]
      omega
theorem Calm.fl {d : Dk} {n k : Nat} (h : Calm d n k) : Calm d.fl n (k + 1) where
  len := by rw [Dk.fl, Dk.upTo_len]; exact h.len
  lenW := by rw [Dk.fl, Dk.upTo_lenW]; exact h.len
  up := h.up
  fuse := h.fuse
  ops := by have := h.ops; simp only [Dk.fl, Dk.upTo]; omega
  few := fun l hl => by
    simp only [Dk.fl, Dk.upTo, List.mem_map, List.mem_range] at hl
    obtain ⟨j, hj, rfl⟩ := hl
    rw [if_pos hj]
    simp
theorem Dk.wr_last {d : Dk} {n : Nat} (hn : d.writes.length = n) (i j : Nat) (hi : i < n) (b : List UInt8) : (d.wr i b).last j = if j = i then b else d.last j := by
  simp only [Dk.last, Dk.wr]
  by_cases hj : j = i
  · subst hj
    rw [if_pos rfl]
    simp [List.getD, List.getElem?_set, hn, hi]
  · rw [if_neg hj]
    simp [List.getD, List.getElem?_set, Ne.symm hj]
theorem Dk.fl_last {d : Dk} (j : Nat) (hj : j < d.safe.length) : d.fl.last j = d.last j := by
  simp only [Dk.fl, Dk.upTo]
  rw [Dk.last]
  simp [List.getD, hj]
theorem fresh_last (n j : Nat) (hj : j < n) : (Dk.fresh n).last j = zeroS := by simp [Dk.last, Dk.fresh, List.getD, hj]

abbrev New0 (lo : Nat) (w : World) (k : Nat) : Prop := lo ≤ k ∧ k < w.heap.size
theorem New_ok (n : Nat) (hn0 : 1 ≤ n) (hn : n ≤ 65536) (w : World) (R : Ending → World → Prop)
    (hR : ∀ w' db, Below w.heap.size w w' → w.heap.size ≤ db → db < w'.heap.size → DkAt w' (fun k => w.heap.size ≤ k ∧ k < w'.heap.size) db (Dk.fresh n) → R (.returned (.tuple #[.pointer (some ⟨db, 0, none⟩), .int .i64 0])) w') :
    Calls Try.prog 9 #[.int .i64 n] w R := by
  refine New_any n hn0 hn w R (fun w' db sb wb hB h1 h2 h3 h4 h5 h6 h7 h8 h9 => ?_)
  have hl : (Dk.fresh n).safe.length = n := by simp [Dk.fresh]
  refine hR w' db hB h1 h7.lt ⟨sb, wb, n, n, List.replicate n (.slice none 0 0), ?_⟩
  exact {
    hd := by rw [hl]; exact h7
    hs := h8.p
    hw := h9.p
    lw := by rw [hl, List.length_replicate]
    lr := by rw [hl]; simp [Dk.fresh]
    row := fun i a b => by
      simp only [Dk.fresh, List.getElem_replicate]
      exact ⟨fun _ => rfl, Own.nil _ _ _ _ _⟩
    apart := fun i j a b g e _ => by rw [List.getElem_replicate] at e; cases e
    mine := fun i a g e => by rw [List.getElem_replicate] at e; cases e
    sd := ⟨h1, h7.lt⟩
    ss := ⟨h2, h8.lt⟩
    sw := ⟨h3, h9.lt⟩
    ds := h4
    dw := h5
    sbw := h6
    ls := fun s hs => by rw [(List.mem_replicate.1 hs).2]; simp [zeroS]
    lwr := fun l hl s hs => by rw [(List.mem_replicate.1 hl).2] at hs; cases hs
    pos := by rw [hl]; omega
    cap := by rw [hl]; exact hn }
theorem Write_ok (S : Nat → Prop) (bb db : Nat) (d : Dk) (n k i : Nat) (b : List UInt8) (w : World) (h : DkAt w S db d) (hk : Calm d n k) (hkk : k ≤ 100000) (hS : ∀ q, S q → q ≠ bb) (hb : Blk w bb (b.flatMap bE) 5) (hl : b.length = 128) (hi : i < n) (R : Ending → World → Prop)
    (hR : ∀ w', Only S w w' → DkAt w' (fun q => S q ∨ (w.heap.size ≤ q ∧ q < w'.heap.size)) db (d.wr i b) → R (.returned (.int .i64 0)) w') :
    Calls Try.prog 13 #[.pointer (some ⟨db, 0, none⟩), .int .i64 i, .slice (some ⟨bb, 0, none⟩) 128 128] w R := by
  have hby : Bytes bb (bb + 1) w (.slice (some ⟨bb, 0, none⟩) 128 128) b := by
    have := Bytes.ofCells (c := 128) hb.cells (Nat.le_refl bb) (Nat.lt_succ_self bb) (by omega) (by decide)
    rwa [hl] at this
  have hup : upE d.safe.length d.down i = 0 := by
    simp only [upE, hk.up, hk.len, Bool.false_eq_true, if_false]
    rw [if_neg (by omega)]
  have ho := hk.ops
  refine Write_any S bb (bb + 1) db d i _ b w h hby hb.lt (fun q hq => by have := hS q hq; omega) (by rw [hk.fuse]; omega) (by omega) (fun l hl => by have := hk.few l hl; omega) R (fun e => absurd hup e) (fun _ e => absurd hl e) (fun _ _ e => by rw [hk.fuse] at e; omega) (fun _ _ _ w' hO hD => ?_)
  refine hR w' hO ?_
  have e : fuse1 d.fuse = d.fuse := by rw [hk.fuse]; rfl
  rw [e, Int.toNat_natCast] at hD
  exact hD
theorem Flush_ok (S : Nat → Prop) (db : Nat) (d : Dk) (n k : Nat) (w : World) (h : DkAt w S db d) (hk : Calm d n k) (hkk : k ≤ 100000) (hS : ∀ q, S q → q < w.heap.size) (R : Ending → World → Prop)
    (hR : ∀ w', Only S w w' → DkAt w' S db d.fl → R (.returned (.int .i64 0)) w') : Calls Try.prog 11 #[.pointer (some ⟨db, 0, none⟩)] w R := by
  have ho := hk.ops
  refine Flush_any S db d w h hS (by rw [hk.fuse]; omega) (by omega) R (fun e => by rw [hk.up] at e; cases e) (fun _ e => by rw [hk.fuse] at e; omega) (fun _ _ w' hO hD => ?_)
  refine hR w' hO ?_
  have e : fuse1 d.fuse = d.fuse := by rw [hk.fuse]; rfl
  rw [e] at hD
  exact hD
theorem Read_ok (S : Nat → Prop) (db : Nat) (d : Dk) (n k i : Nat) (w : World) (h : DkAt w S db d) (hk : Calm d n k) (hi : i < n) (R : Ending → World → Prop)
    (hR : ∀ w' v', Below w.heap.size w w' → OwnB w.heap.size w' v' (d.last i) → R (.returned (.tuple #[v', .int .i64 0])) w') : Calls Try.prog 14 #[.pointer (some ⟨db, 0, none⟩), .int .i64 i] w R := by
  have hup : upE d.safe.length d.down i = 0 := by
    simp only [upE, hk.up, hk.len, Bool.false_eq_true, if_false]
    rw [if_neg (by omega)]
  refine Read_any S w.heap.size db d i w (Nat.le_refl _) h R (fun e => absurd hup e) (fun w' v' _ hB ho => ?_)
  rw [Int.toNat_natCast] at ho
  exact hR w' v' hB ho
end Go.Proofs.Ytfmpafheodpfoaa
