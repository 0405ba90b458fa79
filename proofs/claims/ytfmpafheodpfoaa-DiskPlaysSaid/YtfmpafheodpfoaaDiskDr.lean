/- The calls of both disks, each with one answer. -/
import Derived.Test.YtfmpafheodpfoaaDiskDq
namespace Go.Proofs.Ytfmpafheodpfoaa
open Go.RowKit

theorem DkAt.wid {w' : World} {T : Nat → Prop} {db a : Nat} {d : Dk} (h : DkAt w' T db d) : DkAt w' (Wid T a w'.heap.size) db d := h.mono (fun _ e => .inl e)
theorem RfAt.wid {w' : World} {T : Nat → Prop} {rb a : Nat} {d : Dk} (h : RfAt w' T rb d) : RfAt w' (Wid T a w'.heap.size) rb d := h.keep (fun _ _ _ => rfl) (fun _ e => .inl e)
def Dk.putE (d : Dk) (i : Int) (b : List UInt8) : Int := if upE d.safe.length d.down i ≠ 0 then upE d.safe.length d.down i else if b.length ≠ 128 then 2 else if d.fuse = 0 then 210 else 0
def Dk.flushE (d : Dk) : Int := if d.down then 210 else if d.fuse = 0 then 210 else 0
def Dk.backE (d : Dk) : Int := if d.down then 0 else 2
def Dk.readV (d : Dk) (i : Int) : List UInt8 := if upE d.safe.length d.down i = 0 then d.last i.toNat else []
def Dk.safeV (d : Dk) (i : Int) : List UInt8 := if safeE d.safe.length i = 0 then d.safe.getD i.toNat [] else []
theorem safe211 {n : Nat} {i : Int} (e : safeE n i ≠ 0) : safeE n i = 211 := by
  unfold safeE at e ⊢
  split
  · rfl
  · rename_i h
    rw [if_neg h] at e
    exact absurd rfl e
theorem few_of {d : Dk} {m : Nat} (h : Bnd d m) (hm : m < 100000) : ∀ l ∈ d.writes, l.length ≤ 1000000 := fun l hl => by have := h.few l hl; omega

theorem Write_one (S : Nat → Prop) (lo hi db m : Nat) (d : Dk) (i : Int) (v : Value) (b : List UInt8) (w : World) (h : DkAt w S db d) (hv : Bytes lo hi w v b) (hhi : hi ≤ w.heap.size) (hap : ∀ k, S k → k < lo ∨ hi ≤ k) (hb : Bnd d m) (hm : m < 100000)
    (R : Ending → World → Prop) (hR : ∀ w', Only S w w' → DkAt w' (Wid S w.heap.size w'.heap.size) db (d.put i b) → R (.returned (.int .i64 (d.putE i b))) w') :
    Calls Try.prog 13 #[.pointer (some ⟨db, 0, none⟩), .int .i64 i, v] w R := by
  refine Write_any S lo hi db d i v b w h hv hhi hap hb.fuse ⟨hb.ops.1, by have := hb.ops.2; omega⟩ (few_of hb hm) R (fun e => ?_) (fun e e2 => ?_) (fun e e2 e3 w' hO _ hD => ?_) (fun e e2 e3 w' hO hD => ?_)
  · have := hR w (Only.refl _ _)
    rw [Dk.put, if_pos e, Dk.putE, if_pos e] at this
    exact this h.wid
  · have := hR w (Only.refl _ _)
    rw [Dk.put, if_neg (fun k => k e), if_pos e2, Dk.putE, if_neg (fun k => k e), if_pos e2] at this
    exact this h.wid
  · have := hR w' hO
    rw [Dk.put, if_neg (fun k => k e), if_neg (fun k => k e2), if_pos e3, Dk.putE, if_neg (fun k => k e), if_neg (fun k => k e2), if_pos e3] at this
    exact this hD.wid
  · have := hR w' hO
    rw [Dk.put, if_neg (fun k => k e), if_neg (fun k => k e2), if_neg e3, Dk.putE, if_neg (fun k => k e), if_neg (fun k => k e2), if_neg e3] at this
    exact this hD
theorem WriteR_one (S : Nat → Prop) (rb m : Nat) (d : Dk) (i : Int) (b : List UInt8) (w : World) (h : RfAt w S rb d) (hS : ∀ k, S k → k < w.heap.size) (hb : Bnd d m) (hm : m < 100000)
    (R : Ending → World → Prop) (hR : ∀ w', Only S w w' → RfAt w' (Wid S w.heap.size w'.heap.size) rb (d.put i b) → R (.returned (.int .i64 (d.putE i b))) w') :
    Calls Try.prog 39 #[.pointer (some ⟨rb, 0, none⟩), .int .i64 i, .string ⟨b.toArray⟩] w R := by
  refine WriteR_any S rb d i b w h hS hb.fuse ⟨hb.ops.1, by have := hb.ops.2; omega⟩ (few_of hb hm) R (fun e => ?_) (fun e e2 => ?_) (fun e e2 e3 w' hO hD => ?_) (fun e e2 e3 w' hO hD => ?_)
  · have := hR w (Only.refl _ _)
    rw [Dk.put, if_pos e, Dk.putE, if_pos e] at this
    exact this h.wid
  · have := hR w (Only.refl _ _)
    rw [Dk.put, if_neg (fun k => k e), if_pos e2, Dk.putE, if_neg (fun k => k e), if_pos e2] at this
    exact this h.wid
  · have := hR w' hO
    rw [Dk.put, if_neg (fun k => k e), if_neg (fun k => k e2), if_pos e3, Dk.putE, if_neg (fun k => k e), if_neg (fun k => k e2), if_pos e3] at this
    exact this hD.wid
  · have := hR w' hO
    rw [Dk.put, if_neg (fun k => k e), if_neg (fun k => k e2), if_neg e3, Dk.putE, if_neg (fun k => k e), if_neg (fun k => k e2), if_neg e3] at this
    exact this hD
theorem Flush_one (S : Nat → Prop) (db m : Nat) (d : Dk) (w : World) (h : DkAt w S db d) (hS : ∀ k, S k → k < w.heap.size) (hb : Bnd d m) (hm : m < 100000)
    (R : Ending → World → Prop) (hR : ∀ w', Only S w w' → DkAt w' (Wid S w.heap.size w'.heap.size) db d.flush → R (.returned (.int .i64 d.flushE)) w') :
    Calls Try.prog 11 #[.pointer (some ⟨db, 0, none⟩)] w R := by
  refine Flush_any S db d w h hS hb.fuse ⟨hb.ops.1, by have := hb.ops.2; omega⟩ R (fun e w' hO hD => ?_) (fun e e2 w' hO hD => ?_) (fun e e2 w' hO hD => ?_)
  · have := hR w' hO
    rw [Dk.flush, if_pos e, Dk.flushE, if_pos e] at this
    exact this hD.wid
  · have := hR w' hO
    rw [Dk.flush, if_neg (by rw [e]; decide), if_pos e2, Dk.flushE, if_neg (by rw [e]; decide), if_pos e2] at this
    exact this hD.wid
  · have := hR w' hO
    rw [Dk.flush, if_neg (by rw [e]; decide), if_neg e2, Dk.flushE, if_neg (by rw [e]; decide), if_neg e2] at this
    exact this hD.wid
theorem FlushR_one (S : Nat → Prop) (rb m : Nat) (d : Dk) (w : World) (h : RfAt w S rb d) (hS : ∀ k, S k → k < w.heap.size) (hb : Bnd d m) (hm : m < 100000)
    (R : Ending → World → Prop) (hR : ∀ w', Only S w w' → RfAt w' (Wid S w.heap.size w'.heap.size) rb d.flush → R (.returned (.int .i64 d.flushE)) w') :
    Calls Try.prog 40 #[.pointer (some ⟨rb, 0, none⟩)] w R := by
  refine FlushR_any S rb d w h hS hb.fuse ⟨hb.ops.1, by have := hb.ops.2; omega⟩ (few_of hb hm) R (fun e => ?_) (fun e e2 w' hO hD => ?_) (fun e e2 w' hO hD => ?_)
  · have := hR w (Only.refl _ _)
    rw [Dk.flush, if_pos e, Dk.flushE, if_pos e] at this
    exact this h.wid
  · have := hR w' hO
    rw [Dk.flush, if_neg (by rw [e]; decide), if_pos e2, Dk.flushE, if_neg (by rw [e]; decide), if_pos e2] at this
    exact this hD.wid
  · have := hR w' hO
    rw [Dk.flush, if_neg (by rw [e]; decide), if_neg e2, Dk.flushE, if_neg (by rw [e]; decide), if_neg e2] at this
    exact this hD
theorem Up_one (S : Nat → Prop) (lo hi db m : Nat) (d : Dk) (kv : Value) (keep : List UInt8) (tn at' : Int) (w : World) (h : DkAt w S db d) (hS : ∀ k, S k → k < w.heap.size) (hkp : Bytes lo hi w kv keep) (hhi : hi ≤ w.heap.size) (hap : ∀ k, S k → k < lo ∨ hi ≤ k) (hb : Bnd d m) (hm : m < 100000)
    (R : Ending → World → Prop) (hR : ∀ w', Only S w w' → DkAt w' (Wid S w.heap.size w'.heap.size) db (d.back keep tn at') → R (.returned (.int .i64 d.backE)) w') :
    Calls Try.prog 16 #[.pointer (some ⟨db, 0, none⟩), .agg #[kv, .int .i64 tn, .int .i64 at']] w R := by
  refine Up_any S lo hi db d kv keep tn at' w h hS hkp hhi hap (few_of hb hm) R (fun e w' hO hD => ?_) (fun e w' hO hD => ?_)
  · have := hR w' hO
    rw [Dk.back, if_neg (by rw [e]; decide), Dk.backE, if_neg (by rw [e]; decide)] at this
    exact this hD.wid
  · have := hR w' hO
    rw [Dk.back, if_pos e, Dk.backE, if_pos e] at this
    exact this hD.wid
theorem UpR_one (S : Nat → Prop) (lo hi rb m : Nat) (d : Dk) (kv : Value) (keep : List UInt8) (tn at' : Int) (w : World) (h : RfAt w S rb d) (hS : ∀ k, S k → k < w.heap.size) (hkp : Bytes lo hi w kv keep) (hhi : hi ≤ w.heap.size) (hap : ∀ k, S k → k < lo ∨ hi ≤ k) (hb : Bnd d m) (hm : m < 100000)
    (h128 : ∀ j q, j < d.safe.length → q < (d.writes.getD j []).length + 1 → ((d.safe.getD j [] :: d.writes.getD j []).getD q []).length = 128)
    (R : Ending → World → Prop) (hR : ∀ w', Only S w w' → RfAt w' (Wid S w.heap.size w'.heap.size) rb (d.back keep tn at') → R (.returned (.int .i64 d.backE)) w') :
    Calls Try.prog 42 #[.pointer (some ⟨rb, 0, none⟩), kv, .int .i64 tn, .int .i64 at'] w R := by
  refine UpR_any S lo hi rb d kv keep tn at' w h hS hkp hhi hap (few_of hb hm) h128 R (fun e => ?_) (fun e w' hO hD => ?_)
  · have := hR w (Only.refl _ _)
    rw [Dk.back, if_neg (by rw [e]; decide), Dk.backE, if_neg (by rw [e]; decide)] at this
    exact this h.wid
  · have := hR w' hO
    rw [Dk.back, if_pos e, Dk.backE, if_pos e] at this
    exact this hD
theorem Read_one (S : Nat → Prop) (lo db : Nat) (d : Dk) (i : Int) (w : World) (hlo : lo ≤ w.heap.size) (h : DkAt w S db d) (R : Ending → World → Prop)
    (hR : ∀ w' p c, Below w.heap.size w w' → OwnB lo w' (.slice p (d.readV i).length c) (d.readV i) → R (.returned (.tuple #[.slice p (d.readV i).length c, .int .i64 (upE d.safe.length d.down i)])) w') : Calls Try.prog 14 #[.pointer (some ⟨db, 0, none⟩), .int .i64 i] w R := by
  refine Read_any S lo db d i w hlo h R (fun e => ?_) (fun w' v' e hB ho => ?_)
  · have := hR w none 0 (Below.refl _ _)
    rw [Dk.readV, if_neg e] at this
    exact this (Own.nil _ _ _ _ _)
  · obtain ⟨p, c, rfl⟩ := Own.slice ho
    have := hR w' p c hB
    rw [Dk.readV, if_pos e, e] at this
    exact this ho
theorem Safe_one (S : Nat → Prop) (lo db : Nat) (d : Dk) (i : Int) (w : World) (hlo : lo ≤ w.heap.size) (h : DkAt w S db d) (R : Ending → World → Prop)
    (hR : ∀ w' p c, Below w.heap.size w w' → OwnB lo w' (.slice p (d.safeV i).length c) (d.safeV i) → R (.returned (.tuple #[.slice p (d.safeV i).length c, .int .i64 (safeE d.safe.length i)])) w') : Calls Try.prog 25 #[.pointer (some ⟨db, 0, none⟩), .int .i64 i] w R := by
  refine Safe_any S lo db d i w hlo h R (fun e => ?_) (fun w' v' e hB ho => ?_)
  · have := hR w none 0 (Below.refl _ _)
    have e2 : safeE d.safe.length i = 211 := safe211 e
    rw [Dk.safeV, if_neg e, e2] at this
    exact this (Own.nil _ _ _ _ _)
  · obtain ⟨p, c, rfl⟩ := Own.slice ho
    have := hR w' p c hB
    rw [Dk.safeV, if_pos e, e] at this
    exact this ho
theorem ReadR_one (S : Nat → Prop) (rb m : Nat) (d : Dk) (i : Int) (w : World) (h : RfAt w S rb d) (hb : Bnd d m) (hm : m < 100000) (R : Ending → World → Prop)
    (hR : ∀ w', Below w.heap.size w w' → R (.returned (.tuple #[.string ⟨(d.readV i).toArray⟩, .int .i64 (upE d.safe.length d.down i)])) w') : Calls Try.prog 41 #[.pointer (some ⟨rb, 0, none⟩), .int .i64 i] w R := by
  refine ReadR_any S rb d i w h (few_of hb hm) R (fun e => ?_) (fun e w' hB => ?_)
  · have := hR w (Below.refl _ _)
    rw [Dk.readV, if_neg e] at this
    exact this
  · have := hR w' hB
    rw [Dk.readV, if_pos e, e] at this
    exact this
theorem SafeR_one (S : Nat → Prop) (rb : Nat) (d : Dk) (i : Int) (w : World) (h : RfAt w S rb d) (R : Ending → World → Prop)
    (hR : R (.returned (.tuple #[.string ⟨(d.safeV i).toArray⟩, .int .i64 (safeE d.safe.length i)])) w) : Calls Try.prog 43 #[.pointer (some ⟨rb, 0, none⟩), .int .i64 i] w R := by
  refine SafeR_any S rb d i w h R (fun e => ?_) (fun e => ?_)
  · have := hR
    have e2 : safeE d.safe.length i = 211 := safe211 e
    rw [Dk.safeV, if_neg e, e2] at this
    exact this
  · have := hR
    rw [Dk.safeV, if_pos e, e] at this
    exact this
end Go.Proofs.Ytfmpafheodpfoaa
