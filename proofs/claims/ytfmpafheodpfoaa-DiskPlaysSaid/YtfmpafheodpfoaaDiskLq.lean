/- Up to four pairs of disks in memory; New of a number that may not be. -/
import Derived.Test.YtfmpafheodpfoaaDiskDj
import Derived.Test.YtfmpafheodpfoaaDiskNew
namespace Go.Proofs.Ytfmpafheodpfoaa
open Go.RowKit
attribute [local go_sem ↓] Go.wp_at_zero Go.wp_at_succ

set_option maxRecDepth 100000 in
set_option maxHeartbeats 4000000 in
theorem New_bad (n : Int) (hn : n < 1 ∨ 65536 < n) (w : World) (R : Ending → World → Prop) (hr : R (.returned (.tuple #[.pointer none, .int .i64 2])) w) :
    Calls Try.prog 9 #[.int .i64 n] w R := by
  by_cases h1 : n < 1
  · clear hn
    go_enter Try.func9, Try.ntmps9
    go_wp2_with fail
    first | exact hr | exact fin hr rfl
  · have h2 : 65536 < n := by omega
    clear hn
    go_enter Try.func9, Try.ntmps9
    go_wp2_with fail
    first | exact hr | exact fin hr rfl

def ptrs (pb : Nat → Nat) (N : Nat) : List Value := (List.range N).map fun k => .pointer (some ⟨pb k, 0, none⟩)
abbrev OwnP := Own vE 52 1
/-- N pairs, in blocks of which S tells; the slice of their addresses. -/
structure Prs (w : World) (lo n m : Nat) (v : Value) (S : Nat → Nat → Prop) (pb : Nat → Nat) (D : Nat → Dk) (N : Nat) : Prop where
  o : OwnP lo w v (ptrs pb N)
  one : 1 ≤ N
  four : N ≤ 4
  pr : ∀ k, k < N → PrAt w (S k) (pb k) (D k)
  bd : ∀ k, k < N → Bnd (D k) m
  ln : ∀ k, k < N → (D k).safe.length = n
  ap : ∀ i j, i < N → j < N → i ≠ j → ∀ q, S i q → ¬ S j q
  ge : ∀ i q, i < N → S i q → lo ≤ q
  nv : ∀ i q, i < N → S i q → v.ownBlock ≠ some q
theorem PrAt.lt {w : World} {S : Nat → Prop} {pb : Nat} {d : Dk} (h : PrAt w S pb d) : ∀ q, S q → q < w.heap.size := by
  obtain ⟨T, U, db, rb, h⟩ := h
  exact h.lt
theorem act_len (d : Dk) (x : DOp) : (d.act x).safe.length = d.safe.length := by
  unfold Dk.act
  split
  · unfold Dk.put
    split
    · rfl
    split
    · rfl
    split <;> rfl
  split
  · unfold Dk.flush
    split
    · rfl
    split
    · rfl
    · exact Dk.upTo_len (⟨d.safe, d.writes, fuse1 d.fuse, d.down, d.ops + 1⟩ : Dk) d.last d.safe.length
  split
  · split <;> rfl
  split
  · rfl
  split
  · unfold Dk.back
    split
    · exact Dk.upTo_len d _ _
    · rfl
  · rfl
/-- One pair is called: the others stay. -/
theorem Prs.step {w w' : World} {lo n m : Nat} {v : Value} {S : Nat → Nat → Prop} {pb : Nat → Nat} {D : Nat → Dk} {N k : Nat} (h : Prs w lo n m v S pb D N) (hk : k < N) (hlo : lo ≤ w.heap.size) (hO : Only (S k) w w') (x : DOp) (hx : x.n ≤ 9223372036854775807)
    (hp : PrAt w' (Wid (S k) w.heap.size w'.heap.size) (pb k) ((D k).act x)) : Prs w' lo n (m + 1) v (fun i => if i = k then Wid (S k) w.heap.size w'.heap.size else S i) pb (fun i => if i = k then (D k).act x else D i) N where
  o := Own.same h.o (fun g e => hO.block g (Own.lt h.o g e).2 (fun e2 => h.nv k g hk e2 e))
  one := h.one
  four := h.four
  pr := fun i hi => by
    by_cases e : i = k
    · subst e; simp only [if_true]; exact hp
    · simp only [if_neg e]
      exact (h.pr i hi).only hO (fun q e1 e2 => h.ap i k hi hk e q e1 e2)
  bd := fun i hi => by
    by_cases e : i = k
    · subst e; simp only [if_true]; exact (h.bd i hi).act x hx
    · simp only [if_neg e]
      have hb := h.bd i hi
      exact ⟨hb.fuse, ⟨hb.ops.1, by have := hb.ops.2; omega⟩, fun l hl => by have := hb.few l hl; omega⟩
  ln := fun i hi => by
    by_cases e : i = k
    · subst e; simp only [if_true]; rw [act_len]; exact h.ln i hi
    · simp only [if_neg e]; exact h.ln i hi
  ap := fun i j hi hj hij q h1 h2 => by
    by_cases e1 : i = k
    · by_cases e2 : j = k
      · omega
      · simp only [if_neg e2] at h2
        simp only [if_pos e1] at h1
        rcases h1 with h1 | h1
        · exact h.ap k j hk hj (by omega) q h1 h2
        · have := (h.pr j hj).lt q h2; omega
    · simp only [if_neg e1] at h1
      by_cases e2 : j = k
      · simp only [if_pos e2] at h2
        rcases h2 with h2 | h2
        · exact h.ap i k hi hk e1 q h1 h2
        · have := (h.pr i hi).lt q h1; omega
      · simp only [if_neg e2] at h2
        exact h.ap i j hi hj hij q h1 h2
  ge := fun i q hi h1 => by
    by_cases e : i = k
    · simp only [if_pos e] at h1
      rcases h1 with h1 | h1
      · exact h.ge k q hk h1
      · omega
    · simp only [if_neg e] at h1
      exact h.ge i q hi h1
  nv := fun i q hi h1 e3 => by
    by_cases e : i = k
    · simp only [if_pos e] at h1
      rcases h1 with h1 | h1
      · exact h.nv k q hk h1 e3
      · have := (Own.lt h.o q e3).2; omega
    · simp only [if_neg e] at h1
      exact h.nv i q hi h1 e3
theorem Prs.below {w w' : World} {lo n m : Nat} {v : Value} {S : Nat → Nat → Prop} {pb : Nat → Nat} {D : Nat → Dk} {N : Nat} (h : Prs w lo n m v S pb D N) (hB : Below w.heap.size w w') : Prs w' lo n m v S pb D N where
  o := Own.same h.o (fun g e => hB.block g (Own.lt h.o g e).2)
  one := h.one
  four := h.four
  pr := fun i hi => (h.pr i hi).only (A := fun _ => False) (Below.only hB) (fun _ _ e => e)
  bd := h.bd
  ln := h.ln
  ap := h.ap
  ge := h.ge
  nv := h.nv
/-- Where a pair's address lies. -/
theorem Prs.at {w : World} {lo n m : Nat} {v : Value} {S : Nat → Nat → Prop} {pb : Nat → Nat} {D : Nat → Dk} {N k : Nat} (h : Prs w lo n m v S pb D N) (hk : k < N) :
    ∃ g c, v = .slice (some ⟨g, 0, none⟩) N c ∧ lo ≤ g ∧ g < w.heap.size ∧ w.cell? ⟨g, k, none⟩ = some (.pointer (some ⟨pb k, 0, none⟩)) ∧ ∀ i q, i < N → S i q → q ≠ g := by
  have hl : (ptrs pb N).length = N := by simp [ptrs]
  obtain ⟨g, c, e, h1, h2, -, -, hc, -⟩ := Own.form h.o (fun e => by rw [e] at hl; simp at hl; omega)
  rw [hl] at e
  subst e
  refine ⟨g, c, rfl, h1, h2, ?_, fun i q hi hs e => h.nv i q hi hs (by subst e; rfl)⟩
  have := hc k (.pointer (some ⟨pb k, 0, none⟩)) (by rw [flat_vE, ptrs, List.getElem?_map, List.getElem?_range hk]; rfl)
  rwa [Nat.zero_add] at this
theorem ownV1 (w : World) (x : Value) {b : Nat} (hn : b = w.heap.size) (lo : Nat) (hlo : lo ≤ w.heap.size) : OwnP lo (w.alloc (.cells #[x] 52)) (.slice (some ⟨b, 0, none⟩) 1 1) [x] := by
  subst hn
  exact World.ownsRow_lit (base := lo) (e := 52) (size := 1) w #[x] 1 hlo (by simp [maxLen]) rfl
theorem Bnd.fresh (n : Nat) : Bnd (Dk.fresh n) 0 where
  fuse := ⟨by show (-1 : Int) ≤ 9223372036854775807; omega, by show -9223372036854775808 ≤ (-1 : Int); omega⟩
  ops := ⟨by show (0 : Int) ≤ 0; omega, by show (0 : Int) ≤ ((0 : Nat) : Int); omega⟩
  few := fun l hl => by rw [(List.mem_replicate.1 hl).2]; exact Nat.le_refl _
theorem rowsOf_fresh (n : Nat) : rowsOf (Dk.fresh n) = List.replicate n [zeroS] := by
  apply List.ext_getElem
  · simp [rowsOf, Dk.fresh]
  · intro i h1 h2
    have hi : i < n := by simpa using h2
    simp [rowsOf, Dk.fresh, List.getD, hi]
/-- The first pair. -/
theorem Prs.init {w w1 w3 : World} {n db rb : Nat} (hD : DkAt w1 (fun k => w.heap.size ≤ k ∧ k < w1.heap.size) db (Dk.fresh n)) (hR : RfAt w3 (fun k => w1.heap.size ≤ k ∧ k < w3.heap.size) rb (Dk.fresh n)) (hw : w.heap.size ≤ w1.heap.size) (hB : Below w1.heap.size w1 w3) :
    Prs ((w3.alloc (.cells #[.pointer (some ⟨db, 0, none⟩), .pointer (some ⟨rb, 0, none⟩)] 55)).alloc (.cells #[.pointer (some ⟨w3.heap.size, 0, none⟩)] 52)) w.heap.size n 0 (.slice (some ⟨w3.heap.size + 1, 0, none⟩) 1 1)
      (fun _ k => w.heap.size ≤ k ∧ k ≤ w3.heap.size) (fun _ => w3.heap.size) (fun _ => Dk.fresh n) 1 := by
  have hz := hB.size
  have ha := alloc_below w3 (.cells #[.pointer (some ⟨db, 0, none⟩), .pointer (some ⟨rb, 0, none⟩)] 55)
  have hp := Blk.new w3 [.pointer (some ⟨db, 0, none⟩), .pointer (some ⟨rb, 0, none⟩)] 55 rfl
  have hs : (w3.alloc (.cells #[.pointer (some ⟨db, 0, none⟩), .pointer (some ⟨rb, 0, none⟩)] 55)).heap.size = w3.heap.size + 1 := by simp
  generalize w3.alloc (.cells #[.pointer (some ⟨db, 0, none⟩), .pointer (some ⟨rb, 0, none⟩)] 55) = w4 at *
  have hb := alloc_below w4 (.cells #[.pointer (some ⟨w3.heap.size, 0, none⟩)] 52)
  have hs5 : (w4.alloc (.cells #[.pointer (some ⟨w3.heap.size, 0, none⟩)] 52)).heap.size = w4.heap.size + 1 := by simp
  have hB4 := ha.trans (hb.mono ha.size)
  refine ⟨ownV1 w4 _ (by omega) _ (by omega), Nat.le_refl _, by decide, fun k _ => ?_, fun k _ => Bnd.fresh n, fun k _ => by simp [Dk.fresh], fun i j _ _ _ q _ _ => by omega, fun i q _ h => h.1, fun i q _ h e => ?_⟩
  · refine ⟨fun k => w.heap.size ≤ k ∧ k < w1.heap.size, fun k => w1.heap.size ≤ k ∧ k < w3.heap.size, db, rb, ?_⟩
    exact {
      pd := hp.below hb hp.lt
      sp := ⟨by omega, Nat.le_refl _⟩
      hd := (hD.below hB).below hB4
      hr := hR.below hB4
      t := fun k e => ⟨⟨e.1, by omega⟩, by omega, fun e2 => by omega⟩
      u := fun k e => ⟨⟨by omega, by omega⟩, by omega⟩
      lt := fun k e => by omega }
  · have : w3.heap.size + 1 = q := by simpa [Value.ownBlock] using e
    omega
end Go.Proofs.Ytfmpafheodpfoaa
