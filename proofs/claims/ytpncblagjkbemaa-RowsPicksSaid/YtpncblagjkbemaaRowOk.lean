/- Relations that are answered, or nothing beside an error. -/
import Derived.Test.YtpncblagjkbemaaRowK
namespace Go.Proofs.Ytpncblagjkbemaa
open Go.RowKit
set_option linter.unusedVariables false
set_option linter.unusedSimpArgs false

/-- What is answered beside an error: nothing, if there is one. -/
def okL {α : Type} (e : Int) (l : List α) : List α := if e = 0 then l else []
def madeErr (cols : List S) (xs : List (List V)) : Int := if 32 < cols.length ∨ 100000 < (relCanon xs).length then 140 else 0
theorem okL_ok {α : Type} {e : Int} (h : e = 0) (l : List α) : okL e l = l := if_pos h
theorem okL_no {α : Type} {e : Int} (h : e ≠ 0) (l : List α) : okL e l = [] := if_neg h
theorem madeK_any (lo lc hc : Nat) (cols : List S) (cv : Value) (xs : List (List V)) (hs : List Value) (v : Value) (w : World) (hcols : Strs lc hc w cv cols) (hhc : hc ≤ lo) (hlo : lo ≤ w.heap.size) (h : OwnR lo w v hs xs) (hlen : xs.length ≤ 1000000000000) (R : Ending → World → Prop)
    (hR : ∀ w' cv' lv hs', Below lo w w' → w.heap.size ≤ w'.heap.size → OwnT lo w' cv' (okL (madeErr cols xs) cols) → OwnR lo w' lv hs' (okL (madeErr cols xs) (relCanon xs)) → R (.returned (.tuple #[.agg #[cv', lv], .int .i64 (madeErr cols xs)])) w') :
    Calls Try.prog 70 #[cv, v] w R := by
  refine made_any lo lc hc cols cv xs hs v w hcols hhc hlo h hlen R (fun hb w' hB hz => ?_) (fun h1 h2 w' cv' lv hs' hB hz hT hO => ?_)
  · have e : madeErr cols xs = 140 := if_pos hb
    have := hR w' _ _ [] hB hz (by rw [e]; exact Own.nil _ _ _ _ _) (by rw [e]; exact OwnR.nil _ _)
    rw [e] at this
    exact this
  · have e : madeErr cols xs = 0 := if_neg (by omega)
    have := hR w' cv' lv hs' hB hz (by rw [e]; exact Own.lower hT hlo) (by rw [e]; exact hO)
    rw [e] at this
    exact this
/-- The end of a function that hands back a relation: its result cell is written, and read. -/
theorem relTail {w w5 : World} {b : Nat} {pc pr : Option Addr} {nc nr qc qr : Nat} {x0 x1 : Value} {cols : List S} {xs : List (List V)} {hs : List Value} (hb : Blk w5 b [x0, x1] 34) (hlo : w.heap.size ≤ b) (hB : Below w.heap.size w w5)
    (hT : OwnT w.heap.size w5 (.slice pc nc qc) cols) (hR : OwnR w.heap.size w5 (.slice pr nr qr) hs xs) :
    Below w.heap.size w ((w5.setCell ⟨b, 0, none⟩ (.slice pc nc qc)).setCell ⟨b, 1, none⟩ (.slice pr nr qr)) ∧ OwnT w.heap.size ((w5.setCell ⟨b, 0, none⟩ (.slice pc nc qc)).setCell ⟨b, 1, none⟩ (.slice pr nr qr)) (.slice pc nc qc) cols ∧
      OwnR w.heap.size ((w5.setCell ⟨b, 0, none⟩ (.slice pc nc qc)).setCell ⟨b, 1, none⟩ (.slice pr nr qr)) (.slice pr nr qr) hs xs ∧
      (loadVar 34 ⟨b, 0, none⟩).run Try.prog ((w5.setCell ⟨b, 0, none⟩ (.slice pc nc qc)).setCell ⟨b, 1, none⟩ (.slice pr nr qr)) = .ok (.agg #[.slice pc nc qc, .slice pr nr qr]) ((w5.setCell ⟨b, 0, none⟩ (.slice pc nc qc)).setCell ⟨b, 1, none⟩ (.slice pr nr qr)) :=
  ⟨(hB.setCell (p := ⟨b, 0, none⟩) hlo _).setCell (p := ⟨b, 1, none⟩) hlo _,
    Own.setOther (Own.setOther hT (p := ⟨b, 0, none⟩) (Own.ne_blk hT hb (by decide)) _) (p := ⟨b, 1, none⟩) (Own.ne_blk hT hb (by decide)) _,
    (hR.setBlk hb (by decide) (by decide) 0 _).setBlk (hb.set 0 _) (by decide) (by decide) 1 _,
    ((hb.set 0 (.slice pc nc qc)).set 1 (.slice pr nr qr)).cells.runVar (fun _ => by kernel_rfl) (fun _ => by kernel_rfl)⟩
theorem OfK_any (lo hi lc hc : Nat) (cols : List S) (l : List (List V)) (cv' lv : Value) (w : World) (hcols : Strs lc hc w cv' cols) (hv : Rws lo hi w lv l) (hhi : hi ≤ w.heap.size) (hhc : hc ≤ w.heap.size) (hlen1 : l.length ≤ 1000000000000) (hrl : ∀ x ∈ l, x.length ≤ 4000000000000) (R : Ending → World → Prop)
    (hR : ∀ w' cv2 lv2 hs, Below w.heap.size w w' → OwnT w.heap.size w' cv2 (okL (ofErr cols l) cols) → OwnR w.heap.size w' lv2 hs (okL (ofErr cols l) (relCanon l)) → R (.returned (.tuple #[.agg #[cv2, lv2], .int .i64 (ofErr cols l)])) w') :
    Calls Try.prog 26 #[cv', lv] w R := by
  refine Of_any lo hi lc hc cols l cv' lv w hcols hv hhi hhc hlen1 hrl R (fun hb w' hB => ?_) (fun h1 w' cv2 lv2 hs hB hT hO => ?_)
  · exact hR w' _ _ [] hB (by rw [okL_no hb]; exact Own.nil _ _ _ _ _) (by rw [okL_no hb]; exact OwnR.nil _ _)
  · have := hR w' cv2 lv2 hs hB (by rw [okL_ok h1]; exact hT) (by rw [okL_ok h1]; exact hO)
    rw [h1] at this
    exact this
theorem refOfK_any (lo hi lc hc : Nat) (cols : List S) (ac : Option Addr) (cc : Nat) (l : List (List V)) (lv : Value) (w : World) (hcols : Strs lc hc w (.slice ac cols.length cc) cols) (hhc : hc ≤ w.heap.size) (hv : Rws lo hi w lv l) (hhi : hi ≤ w.heap.size) (hlen : l.length ≤ 1000000000000) (hrl : ∀ x ∈ l, x.length ≤ 4000000000000) (hrs : ∀ x ∈ l, ∀ a ∈ x, a.s.length ≤ 9223372036854775807) (R : Ending → World → Prop)
    (hR : ∀ w' cv2 lv2, Below w.heap.size w w' → Strs 0 w'.heap.size w' cv2 (okL (ofErr cols l) cols) → Rws 0 w'.heap.size w' lv2 (okL (ofErr cols l) (relCanon l)) → R (.returned (.tuple #[.agg #[cv2, lv2], .int .i64 (ofErr cols l)])) w') :
    Calls Try.prog 27 #[.slice ac cols.length cc, lv] w R := by
  refine refOf_any lo hi lc hc cols ac cc l lv w hcols hhc hv hhi hlen hrl hrs R (fun hb w' hB => ?_) (fun h1 w' lv2 hB hO => ?_)
  · exact hR w' _ _ hB (by rw [okL_no hb]; exact Sl.nil _ _ _ _ _) (by rw [okL_no hb]; exact Sl.nil _ _ _ _ _)
  · have := hR w' _ lv2 hB (by rw [okL_ok h1]; exact (Sl.below hcols Strs.loc hB hhc).mono Strs.loc (Nat.zero_le _) (Nat.le_trans hhc hB.size)) (by rw [okL_ok h1]; exact hO.mono rowE_loc (Nat.zero_le _) (Nat.le_refl _))
    rw [h1] at this
    exact this
theorem refOfP_any (lo hi lc hc : Nat) (cols : List S) (ac : Option Addr) (cc : Nat) (l : List (List V)) (lv : Value) (w : World) (hcols : Strs lc hc w (.slice ac cols.length cc) cols) (hhc : hc ≤ w.heap.size) (hv : Rws lo hi w lv l) (hhi : hi ≤ w.heap.size) (hlen : l.length ≤ 1000000000000) (hrl : ∀ x ∈ l, x.length ≤ 4000000000000) (hrs : ∀ x ∈ l, ∀ a ∈ x, a.s.length ≤ 9223372036854775807) (R : Ending → World → Prop)
    (hR : ∀ w' cv2 lv2, Below w.heap.size w w' → Strs lc hc w' cv2 (okL (ofErr cols l) cols) → Rws w.heap.size w'.heap.size w' lv2 (okL (ofErr cols l) (relCanon l)) → R (.returned (.tuple #[.agg #[cv2, lv2], .int .i64 (ofErr cols l)])) w') :
    Calls Try.prog 27 #[.slice ac cols.length cc, lv] w R := by
  refine refOf_any lo hi lc hc cols ac cc l lv w hcols hhc hv hhi hlen hrl hrs R (fun hb w' hB => ?_) (fun h1 w' lv2 hB hO => ?_)
  · exact hR w' _ _ hB (by rw [okL_no hb]; exact Sl.nil _ _ _ _ _) (by rw [okL_no hb]; exact Sl.nil _ _ _ _ _)
  · have := hR w' _ lv2 hB (by rw [okL_ok h1]; exact Sl.below hcols Strs.loc hB hhc) (by rw [okL_ok h1]; exact hO)
    rw [h1] at this
    exact this
theorem refMadeK_any (lo hi lc hc : Nat) (cols : List S) (ac : Option Addr) (cc : Nat) (l : List (List V)) (lv : Value) (w : World) (hcols : Strs lc hc w (.slice ac cols.length cc) cols) (hhc : hc ≤ w.heap.size) (hv : Rws lo hi w lv l) (hhi : hi ≤ w.heap.size) (hlen : l.length ≤ 1000000000000) (hrl : ∀ x ∈ l, x.length ≤ 4000000000000) (hrs : ∀ x ∈ l, ∀ a ∈ x, a.s.length ≤ 9223372036854775807) (R : Ending → World → Prop)
    (hR : ∀ w' cv2 lv2, Below w.heap.size w w' → Strs 0 w'.heap.size w' cv2 (okL (madeErr cols l) cols) → Rws 0 w'.heap.size w' lv2 (okL (madeErr cols l) (relCanon l)) → R (.returned (.tuple #[.agg #[cv2, lv2], .int .i64 (madeErr cols l)])) w') :
    Calls Try.prog 74 #[.slice ac cols.length cc, lv] w R := by
  refine refMade_any lo hi cols ac cc l lv w hv hhi hlen hrl hrs R (fun hb w' hB => ?_) (fun h1 h2 w' lv2 hB hO => ?_)
  · have e : madeErr cols l = 140 := if_pos hb
    have := hR w' _ _ hB (by rw [e]; exact Sl.nil _ _ _ _ _) (by rw [e]; exact Sl.nil _ _ _ _ _)
    rw [e] at this
    exact this
  · have e : madeErr cols l = 0 := if_neg (by omega)
    have := hR w' _ lv2 hB (by rw [e]; exact (Sl.below hcols Strs.loc hB hhc).mono Strs.loc (Nat.zero_le _) (Nat.le_trans hhc hB.size)) (by rw [e]; exact hO.mono rowE_loc (Nat.zero_le _) (Nat.le_refl _))
    rw [e] at this
    exact this
theorem relCanon_mem {l : List (List V)} {x : List V} (h : x ∈ relCanon l) : x ∈ l := (canon_mem cmpR_cmp l x).1 h
theorem okL_mem {α : Type} {e : Int} {l : List α} {x : α} (h : x ∈ okL e l) : x ∈ l := by
  unfold okL at h
  split at h
  · exact h
  · cases h
end Go.Proofs.Ytpncblagjkbemaa
