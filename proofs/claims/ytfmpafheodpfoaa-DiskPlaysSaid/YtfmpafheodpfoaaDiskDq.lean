/- Bytes that a call of a pair makes its own. -/
import Derived.Test.YtfmpafheodpfoaaDiskDp
namespace Go.Proofs.Ytfmpafheodpfoaa
open Go.RowKit

theorem full_own {w : World} {g lo : Nat} {b : List UInt8} (h : Blk w g ((full b).flatMap bE) 5) (hlo : lo ≤ g) : OwnB lo w (.slice (some ⟨g, 0, none⟩) 128 128) (full b) := by
  have hl := full_length b
  have hc : ((full b).flatMap bE).length = 128 := by rw [flatMap_bE, List.length_map, hl]
  refine ⟨by rw [flatMap_bE, List.length_map, Nat.mul_one], .inr ⟨g, 128, ((full b).flatMap bE).toArray, by rw [hl], hlo, h, by omega, by decide, by simp [hc], ?_⟩⟩
  rw [List.toList_toArray, hl, Nat.mul_one, List.take_of_length_le (by omega)]
theorem copyD {w : World} {blo bhi : Nat} {x : Value} {l : List UInt8} (h : Bytes blo bhi w x l) (hh : bhi ≤ w.heap.size) (hl : l.length ≤ 100000) {n : Nat} (hn : n = w.heap.size) :
    ∃ p c w', (Builtin.append_ #[30, 30] 30 #[.slice (some ⟨n, 0, none⟩) 0 0, x]).run Try.prog (w.alloc (.cells #[] 5)) = .ok (.slice p l.length c) w' ∧ OwnB w.heap.size w' (.slice p l.length c) l ∧ Below w.heap.size w w' := by
  subst hn
  have hal : Below w.heap.size w (w.alloc (.cells #[] 5)) := alloc_below' w _
  have hs := Src.ofSl (P := Try.prog) (Sl.below h (flat_loc _) hal hh) (fun _ => rfl) (fun x u hu => by simp only [bE, List.mem_cons, List.not_mem_nil, or_false] at hu; rw [hu]; rfl) Try.underlying30
  obtain ⟨v', w', hr, ho, ha⟩ := appB (ty := 30) (Own.made bE 5 1 w.heap.size w rfl (Nat.le_refl _)) hs (by simp; omega) hal.size
  rw [List.nil_append] at ho
  obtain ⟨p, c, rfl⟩ := Own.slice ho
  refine ⟨p, c, w', hr, ho, hal.trans (ha.below hal.size (fun k hk => ?_))⟩
  have : w.heap.size = k := by simpa [Value.ownBlock] using hk
  omega
theorem alloc_below (w : World) (o : Obj) : Below w.heap.size w (w.alloc o) := alloc_below' w o
theorem OwnB.set {lo g n c k : Nat} {w : World} {l : List UInt8} (h : OwnB lo w (.slice (some ⟨g, 0, none⟩) n c) l) (hk : k < l.length) (x : UInt8) : OwnB lo (w.setCell ⟨g, k, none⟩ (.int .u8 x.toNat)) (.slice (some ⟨g, 0, none⟩) n c) (l.set k x) := by
  obtain ⟨h1, h2⟩ := h
  rcases h2 with ⟨e, hn⟩ | ⟨g', cap, cur, e, hb, hg, hnc, hcm, hcs, htake⟩
  · cases e
  · injection e with e1 e2 e3
    injection e1 with e1
    injection e1 with e1
    subst e1 e2 e3
    have hB : Blk w g cur.toList 5 := by unfold Blk; simpa using hg
    have hB2 := hB.set k (.int .u8 x.toNat)
    refine ⟨by simp [flatMap_bE], .inr ⟨g, c, (cur.toList.set k (.int .u8 x.toNat)).toArray, by simp, hb, hB2, by simpa using hnc, hcm, by simpa using hcs, ?_⟩⟩
    rw [List.length_set, List.toList_toArray, List.take_set, htake, flatMap_bE, flatMap_bE, List.map_set]
theorem wrap_u8add (a b : UInt8) : IntKind.u8.wrap ((a.toNat : Int) + (b.toNat : Int)) = ((a + b).toNat : Int) := by
  have h1 := a.toNat_lt
  have h2 := b.toNat_lt
  simp only [IntKind.wrap, IntKind.signed, IntKind.bits, Bool.false_and, UInt8.toNat_add]
  simp
def Some8 (lo n : Nat) (v : Value) (w : World) : Prop := ∃ l : List UInt8, l.length = n ∧ OwnB lo w v l
theorem Some8.at {lo n m c : Nat} {p : Option Addr} {w : World} (h : Some8 lo n (.slice p m c) w) (k : Nat) (hk : k < n) : ∃ g x, p = some ⟨g, 0, none⟩ ∧ m = n ∧ w.cell? ⟨g, k, none⟩ = some (.int .u8 (UInt8.toNat x)) ∧ w.frozen? ⟨g, k, none⟩ = false ∧
    Some8 lo n (.slice (some ⟨g, 0, none⟩) m c) (w.setCell ⟨g, k, none⟩ (.int .u8 ((UInt8.toNat (x + 1) : Nat) : Int))) := by
  obtain ⟨l, hl, h⟩ := h
  obtain ⟨g, cap, e, h1, h2, h3, h4, h5, h6⟩ := h.form (fun e => by rw [e] at hl; simp at hl; omega)
  injection e with e1 e2 e3
  subst e1 e2 e3
  have hkl : k < l.length := by omega
  have hc := h5 k (.int .u8 l[k].toNat) (by rw [flatMap_bE]; simp [hkl])
  refine ⟨g, l[k], rfl, hl, by simpa using hc, h6 k, l.set k (l[k] + 1), by rw [List.length_set]; exact hl, h.set hkl _⟩
theorem ifp {lo : Nat} {w : World} {v : Value} {a b : List UInt8} {q : Prop} [Decidable q] (h : OwnB lo w v a) (hq : q := by first | rfl | trivial) : OwnB lo w v (if q then a else b) := by rw [if_pos hq]; exact h
theorem act0 (d : Dk) (i n : Int) (data : List UInt8) (raw : Bool) (keep : List UInt8) (tn at' : Int) : d.act ⟨0, i, n, data, raw, keep, tn, at'⟩ = d.put i (DOp.bytes ⟨0, i, n, data, raw, keep, tn, at'⟩) := by
  simp [Dk.act]
theorem act2 (d : Dk) (i n : Int) (data : List UInt8) (raw : Bool) (keep : List UInt8) (tn at' : Int) : d.act ⟨2, i, n, data, raw, keep, tn, at'⟩ = d := by
  simp [Dk.act]
theorem act6 (d : Dk) (i n : Int) (data : List UInt8) (raw : Bool) (keep : List UInt8) (tn at' : Int) : d.act ⟨6, i, n, data, raw, keep, tn, at'⟩ = d := by
  simp [Dk.act]
theorem act7 (d : Dk) (i n : Int) (data : List UInt8) (raw : Bool) (keep : List UInt8) (tn at' : Int) : d.act ⟨7, i, n, data, raw, keep, tn, at'⟩ = d := by
  simp [Dk.act]
def NotKind (k : Int) : Prop := k ≠ 0 ∧ k ≠ 1 ∧ k ≠ 2 ∧ k ≠ 3 ∧ k ≠ 4 ∧ k ≠ 5 ∧ k ≠ 6 ∧ k ≠ 7
theorem actX (d : Dk) (k i n : Int) (data : List UInt8) (raw : Bool) (keep : List UInt8) (tn at' : Int) (h : NotKind k) : d.act ⟨k, i, n, data, raw, keep, tn, at'⟩ = d := by
  obtain ⟨h0, h1, -, h3, h4, h5, -, -⟩ := h
  simp [Dk.act, h0, h1, h3, h4, h5]
theorem act3 (d : Dk) (i n : Int) (data : List UInt8) (raw : Bool) (keep : List UInt8) (tn at' : Int) (h : 0 ≤ n) : d.act ⟨3, i, n, data, raw, keep, tn, at'⟩ = ⟨d.safe, d.writes, n, d.down, d.ops⟩ := by
  have : ¬ n < 0 := by omega
  simp [Dk.act, this]
theorem act3n (d : Dk) (i n : Int) (data : List UInt8) (raw : Bool) (keep : List UInt8) (tn at' : Int) (h : n < 0) : d.act ⟨3, i, n, data, raw, keep, tn, at'⟩ = d := by
  simp [Dk.act, h]
theorem add8 (x : UInt8) : IntKind.u8.wrap ((x.toNat : Int) + 1) = ((UInt8.toNat (x + 1) : Nat) : Int) := by
  have := wrap_u8add x 1
  simpa using this
theorem add8m (x : UInt8) : ((x.toNat : Int) + 1) % 256 = ((UInt8.toNat (x + 1) : Nat) : Int) := by
  rw [UInt8.toNat_add]
  simp
end Go.Proofs.Ytfmpafheodpfoaa
