/- One pair more; more calls allowed for. -/
import Derived.Test.YtfmpafheodpfoaaDiskLq
namespace Go.Proofs.Ytfmpafheodpfoaa
open Go.RowKit

theorem Prs.mono {w : World} {lo n m m' : Nat} {v : Value} {S : Nat → Nat → Prop} {pb : Nat → Nat} {D : Nat → Dk} {N : Nat} (h : Prs w lo n m v S pb D N) (hm : m ≤ m') : Prs w lo n m' v S pb D N where
  o := h.o
  one := h.one
  four := h.four
  pr := h.pr
  bd := fun k hk => ⟨(h.bd k hk).fuse, ⟨(h.bd k hk).ops.1, by have := (h.bd k hk).ops.2; omega⟩, fun l hl => by have := (h.bd k hk).few l hl; omega⟩
  ln := h.ln
  ap := h.ap
  ge := h.ge
  nv := h.nv
theorem Prs.add {w w5 w6 : World} {lo n m : Nat} {v v' : Value} {S : Nat → Nat → Prop} {pb : Nat → Nat} {D : Nat → Dk} {N p : Nat} {Sn : Nat → Prop} {d : Dk} (h : Prs w lo n m v S pb D N) (h4 : N < 4) (hlo : lo ≤ w.heap.size) (hB : Below w.heap.size w w5)
    (hP : PrAt w5 Sn p d) (hn : ∀ q, Sn q → w.heap.size ≤ q) (hb : Bnd d m) (hl : d.safe.length = n) (ho : OwnP lo w6 v' (ptrs pb N ++ [.pointer (some ⟨p, 0, none⟩)])) (ha : Appended w5 v w6 v') :
    Prs w6 lo n m v' (fun i => if i = N then Sn else S i) (fun i => if i = N then p else pb i) (fun i => if i = N then d else D i) (N + 1) := by
  have hs := hB.size
  have hv : ∀ g, v.ownBlock = some g → g < w.heap.size := fun g e => (Own.lt h.o g e).2
  have hA : Only (fun q => v.ownBlock = some q) w5 w6 := ⟨ha.grown.os, ha.grown.tape, ha.grown.output, ha.grown.size, fun k hk hne => ha.grown.block k hk (fun e => hne e.symm)⟩
  refine ⟨?_, by omega, by omega, fun k hk => ?_, fun k hk => ?_, fun k hk => ?_, fun i j hi hj hij q h1 h2 => ?_, fun i q hi h1 => ?_, fun i q hi h1 e => ?_⟩
  · have e : ptrs (fun i => if i = N then p else pb i) (N + 1) = ptrs pb N ++ [.pointer (some ⟨p, 0, none⟩)] := by
      simp only [ptrs, List.range_succ, List.map_append, List.map_cons, List.map_nil, if_true]
      congr 1
      refine List.map_congr_left (fun i hi => ?_)
      have := List.mem_range.1 hi
      rw [if_neg (by omega)]
    rw [e]; exact ho
  · by_cases e : k = N
    · subst e; simp only [if_true]
      exact hP.only hA (fun q h1 h2 => by have := hn q h1; have := hv q h2; omega)
    · simp only [if_neg e]
      exact ((h.pr k (by omega)).only (A := fun _ => False) (Below.only hB) (fun _ _ e => e)).only hA (fun q h1 h2 => h.nv k q (by omega) h1 h2)
  · by_cases e : k = N
    · subst e; simp only [if_true]; exact hb
    · simp only [if_neg e]; exact h.bd k (by omega)
  · by_cases e : k = N
    · subst e; simp only [if_true]; exact hl
    · simp only [if_neg e]; exact h.ln k (by omega)
  · by_cases e1 : i = N
    · by_cases e2 : j = N
      · omega
      · simp only [if_pos e1] at h1
        simp only [if_neg e2] at h2
        have := hn q h1
        have := (h.pr j (by omega)).lt q h2
        omega
    · simp only [if_neg e1] at h1
      by_cases e2 : j = N
      · simp only [if_pos e2] at h2
        have := hn q h2
        have := (h.pr i (by omega)).lt q h1
        omega
      · simp only [if_neg e2] at h2
        exact h.ap i j (by omega) (by omega) hij q h1 h2
  · by_cases e1 : i = N
    · simp only [if_pos e1] at h1
      have := hn q h1
      omega
    · simp only [if_neg e1] at h1
      exact h.ge i q (by omega) h1
  · have hq : q < w5.heap.size := by
      by_cases e1 : i = N
      · simp only [if_pos e1] at h1; exact hP.lt q h1
      · simp only [if_neg e1] at h1; have := (h.pr i (by omega)).lt q h1; omega
    rcases ha.moved with e2 | ⟨g, e2, hg⟩
    · rw [e2] at e
      have := hv q e
      by_cases e1 : i = N
      · simp only [if_pos e1] at h1; have := hn q h1; omega
      · simp only [if_neg e1] at h1; exact h.nv i q (by omega) h1 e
    · rw [e2] at e
      injection e with e
      omega
theorem infoPr : (Try.prog.info? 52).map (fun i => (i.zero, i.size, i.bytes)) = some (some (.pointer none), 1, 8) := by kernel_rfl
theorem appP1 {w : World} {lo : Nat} {v : Value} {xs : List Value} (h : OwnP lo w v xs) {n p : Nat} (hc : CellsAt w n 0 [.pointer (some ⟨p, 0, none⟩)]) (hb : xs.length + 1 ≤ 100000000) (hlo : lo ≤ w.heap.size) :
    ∃ v' w', (Builtin.append_ #[56, 56] 56 #[v, .slice (some ⟨n, 0, none⟩) 1 1]).run Try.prog w = .ok v' w' ∧ OwnP lo w' v' (xs ++ [.pointer (some ⟨p, 0, none⟩)]) ∧ Appended w v w' v' := by
  obtain ⟨i0, hi, hz0, hz1, hz2⟩ := info_parts infoPr
  have hs : Src Try.prog 1 56 (.slice (some ⟨n, 0, none⟩) 1 1) [Value.pointer (some ⟨p, 0, none⟩)].length ([Value.pointer (some ⟨p, 0, none⟩)].flatMap vE) w :=
    Src.ofSlice _ Try.underlying56 _ _ _ _ (by simp [vE]) (fun j u hu => by rw [Addr.add_lit]; exact hc j u (by simpa [vE] using hu)) (fun u hu => by
      simp only [List.flatMap_cons, List.flatMap_nil, vE, List.append_nil, List.mem_cons, List.not_mem_nil, or_false] at hu
      rw [hu]; rfl)
  exact Own.app h _ _ _ i0 _ 8 Try.underlying56 hi hz0 hz1 hz2 rfl hs (by simp only [List.length_singleton]; omega) (by decide) hlo
end Go.Proofs.Ytfmpafheodpfoaa
