/- A pair of disks, the code's and the document's, in memory; what a call makes of them. -/
import Derived.Test.YtfmpafheodpfoaaDiskCo
import Derived.Test.YtfmpafheodpfoaaDiskRm
import Derived.Test.YtfmpafheodpfoaaDiskRu
namespace Go.Proofs.Ytfmpafheodpfoaa
open Go.RowKit

structure PrIn (w : World) (S T U : Nat → Prop) (pb db rb : Nat) (d : Dk) : Prop where
  pd : Blk w pb [.pointer (some ⟨db, 0, none⟩), .pointer (some ⟨rb, 0, none⟩)] 55
  sp : S pb
  hd : DkAt w T db d
  hr : RfAt w U rb d
  t : ∀ k, T k → S k ∧ k ≠ pb ∧ ¬ U k
  u : ∀ k, U k → S k ∧ k ≠ pb
  lt : ∀ k, S k → k < w.heap.size
def PrAt (w : World) (S : Nat → Prop) (pb : Nat) (d : Dk) : Prop := ∃ T U db rb, PrIn w S T U pb db rb d
theorem PrIn.keep {w w' : World} {S T U S' : Nat → Prop} {pb db rb : Nat} {d : Dk} (h : PrIn w S T U pb db rb d) (hb : ∀ k, S k → k < w.heap.size → w'.heap[k]? = w.heap[k]?) (hS : ∀ k, S k → S' k) (hl : ∀ k, S' k → k < w'.heap.size) : PrIn w' S' T U pb db rb d where
  pd := (hb pb h.sp h.pd.lt).trans h.pd
  sp := hS _ h.sp
  hd := h.hd.keep (fun k e hk => hb k (h.t k e).1 hk) (fun _ e => e)
  hr := h.hr.keep (fun k e hk => hb k (h.u k e).1 hk) (fun _ e => e)
  t := fun k e => ⟨hS k (h.t k e).1, (h.t k e).2⟩
  u := fun k e => ⟨hS k (h.u k e).1, (h.u k e).2⟩
  lt := hl
theorem PrAt.keep {w w' : World} {S S' : Nat → Prop} {pb : Nat} {d : Dk} (h : PrAt w S pb d) (hb : ∀ k, S k → k < w.heap.size → w'.heap[k]? = w.heap[k]?) (hS : ∀ k, S k → S' k) (hl : ∀ k, S' k → k < w'.heap.size) : PrAt w' S' pb d := by
  obtain ⟨T, U, db, rb, h⟩ := h
  exact ⟨T, U, db, rb, h.keep hb hS hl⟩
theorem PrAt.only {w w' : World} {S A : Nat → Prop} {pb : Nat} {d : Dk} (h : PrAt w S pb d) (hO : Only A w w') (hA : ∀ k, S k → ¬ A k) : PrAt w' S pb d := by
  obtain ⟨T, U, db, rb, h⟩ := h
  exact ⟨T, U, db, rb, h.keep (fun k hs hk => hO.block k hk (hA k hs)) (fun _ e => e) (fun k hs => Nat.lt_of_lt_of_le (h.lt k hs) hO.size)⟩
/-- The blocks S, and those that came between two worlds. -/
def Wid (S : Nat → Prop) (a b : Nat) : Nat → Prop := fun k => S k ∨ (a ≤ k ∧ k < b)
/-- Both disks were turned, one behind the other. -/
theorem PrIn.turn {w w0 w1 w2 w3 : World} {S T U T' U' : Nat → Prop} {pb db rb : Nat} {d d' : Dk} (h : PrIn w S T U pb db rb d) (h0 : Below w.heap.size w w0) (h1 : Only T w0 w1) (h2 : Only U w1 w2) (h3 : Below w.heap.size w2 w3)
    (hd : DkAt w3 T' db d') (hr : RfAt w3 U' rb d') (hT : ∀ k, T' k → T k ∨ (w0.heap.size ≤ k ∧ k < w1.heap.size)) (hU : ∀ k, U' k → U k ∨ (w1.heap.size ≤ k ∧ k < w2.heap.size)) (hp : w3.heap[pb]? = w2.heap[pb]?) :
    PrIn w3 (Wid S w.heap.size w3.heap.size) T' U' pb db rb d' := by
  have s0 := h0.size
  have s1 := h1.size
  have s2 := h2.size
  have s3 := h3.size
  have hpl := h.pd.lt
  have hp0 := h0.block pb hpl
  have hp1 := h1.block pb (by omega) (fun e => (h.t pb e).2.1 rfl)
  have hp2 := h2.block pb (by omega) (fun e => (h.u pb e).2 rfl)
  refine ⟨?_, .inl h.sp, hd, hr, fun k e => ?_, fun k e => ?_, fun k e => ?_⟩
  · exact hp.trans (hp2.trans (hp1.trans (hp0.trans h.pd)))
  · rcases hT k e with e1 | e1
    · refine ⟨.inl (h.t k e1).1, (h.t k e1).2.1, fun e2 => ?_⟩
      rcases hU k e2 with e3 | e3
      · exact (h.t k e1).2.2 e3
      · have := h.lt k (h.t k e1).1; omega
    · refine ⟨.inr ⟨by omega, by omega⟩, by omega, fun e2 => ?_⟩
      rcases hU k e2 with e3 | e3
      · have := h.lt k (h.u k e3).1; omega
      · omega
  · rcases hU k e with e1 | e1
    · exact ⟨.inl (h.u k e1).1, (h.u k e1).2⟩
    · exact ⟨.inr ⟨by omega, by omega⟩, by omega⟩
  · rcases e with e | e
    · have := h.lt k e; omega
    · exact e.2
theorem PrIn.on {w w0 w1 w2 w3 : World} {S T U : Nat → Prop} {pb db rb : Nat} {d : Dk} (h : PrIn w S T U pb db rb d) (h0 : Below w.heap.size w w0) (h1 : Only T w0 w1) (h2 : Only U w1 w2) (h3 : Below w.heap.size w2 w3) : Only S w w3 := by
  have s0 := h0.size
  have s1 := h1.size
  have s2 := h2.size
  have s3 := h3.size
  refine ⟨h3.os.trans (h2.os.trans (h1.os.trans h0.os)), h3.tape.trans (h2.tape.trans (h1.tape.trans h0.tape)), h3.output.trans (h2.output.trans (h1.output.trans h0.output)), by omega, fun k hk hn => ?_⟩
  exact (h3.block k hk).trans ((h2.block k (by omega) (fun e => hn (h.u k e).1)).trans ((h1.block k (by omega) (fun e => hn (h.t k e).1)).trans (h0.block k hk)))
theorem PrIn.apart {w : World} {S T U : Nat → Prop} {pb db rb : Nat} {d : Dk} (h : PrIn w S T U pb db rb d) : ∀ k, U k → ¬ T k := fun k e e2 => (h.t k e2).2.2 e
theorem PrIn.cells {w w' : World} {S T U : Nat → Prop} {pb db rb : Nat} {d : Dk} (h : PrIn w S T U pb db rb d) (hk : w'.heap[pb]? = w.heap[pb]?) : w'.cell? ⟨pb, 0, none⟩ = some (.pointer (some ⟨db, 0, none⟩)) ∧ w'.cell? ⟨pb, 1, none⟩ = some (.pointer (some ⟨rb, 0, none⟩)) := by
  have h2 : Blk w' pb [.pointer (some ⟨db, 0, none⟩), .pointer (some ⟨rb, 0, none⟩)] 55 := hk.trans h.pd
  exact ⟨h2.cells 0 _ rfl, h2.cells 1 _ rfl⟩

/-- What a call of the statement makes of a disk. -/
def DOp.bytes (x : DOp) : List UInt8 := if x.raw then x.data else full x.data
def Dk.put (d : Dk) (i : Int) (b : List UInt8) : Dk :=
  if upE d.safe.length d.down i ≠ 0 then d else if b.length ≠ 128 then d
  else if d.fuse = 0 then ⟨d.safe, d.writes, d.fuse, true, d.ops⟩
  else ⟨d.safe, d.writes.set i.toNat (d.writes.getD i.toNat [] ++ [b]), fuse1 d.fuse, d.down, d.ops + 1⟩
def Dk.flush (d : Dk) : Dk :=
  if d.down then d else if d.fuse = 0 then ⟨d.safe, d.writes, d.fuse, true, d.ops⟩
  else (⟨d.safe, d.writes, fuse1 d.fuse, d.down, d.ops + 1⟩ : Dk).upTo d.last d.safe.length
def Dk.back (d : Dk) (keep : List UInt8) (tn at' : Int) : Dk :=
  if d.down then ⟨(d.upTo (fate d keep tn at') d.safe.length).safe, (d.upTo (fate d keep tn at') d.safe.length).writes, -1, false, d.ops⟩ else d
def Dk.act (d : Dk) (x : DOp) : Dk :=
  if x.kind = 0 then d.put x.i x.bytes
  else if x.kind = 1 then d.flush
  else if x.kind = 3 then (if x.n < 0 then d else ⟨d.safe, d.writes, x.n, d.down, d.ops⟩)
  else if x.kind = 4 then ⟨d.safe, d.writes, d.fuse, true, d.ops⟩
  else if x.kind = 5 then d.back x.keep x.tn x.at'
  else d
structure Bnd (d : Dk) (n : Nat) : Prop where
  fuse : d.fuse ≤ 9223372036854775807 ∧ -9223372036854775808 ≤ d.fuse
  ops : 0 ≤ d.ops ∧ d.ops ≤ (n : Int)
  few : ∀ l ∈ d.writes, l.length ≤ n
theorem getD_len {ws : List (List (List UInt8))} {n : Nat} (h : ∀ l ∈ ws, l.length ≤ n) (i : Nat) : (ws.getD i []).length ≤ n := by
  rw [List.getD_eq_getElem?_getD]
  rcases hw : ws[i]? with _ | l
  · simp
  · exact h l (List.mem_of_getElem? hw)
theorem fuse1_bnd {f : Int} (h : f ≤ 9223372036854775807 ∧ -9223372036854775808 ≤ f) : fuse1 f ≤ 9223372036854775807 ∧ -9223372036854775808 ≤ fuse1 f := by
  unfold fuse1
  split <;> omega
theorem upTo_writes (d : Dk) (f : Nat → List UInt8) (n : Nat) (h : ∀ l ∈ d.writes, l.length ≤ n) (i : Nat) : ∀ l ∈ (d.upTo f i).writes, l.length ≤ n := by
  intro l hl
  simp only [Dk.upTo, List.mem_map] at hl
  obtain ⟨j, -, rfl⟩ := hl
  have := getD_len h j
  split
  · simp
  · exact this
theorem Bnd.act {d : Dk} {n : Nat} (h : Bnd d n) (x : DOp) (hx : x.n ≤ 9223372036854775807) : Bnd (d.act x) (n + 1) := by
  have hm : Bnd d (n + 1) := ⟨h.fuse, ⟨h.ops.1, by have := h.ops.2; omega⟩, fun l hl => by have := h.few l hl; omega⟩
  have h2 := h.ops
  unfold Dk.act
  split
  · unfold Dk.put
    split
    · exact hm
    split
    · exact hm
    split
    · exact ⟨h.fuse, hm.ops, hm.few⟩
    · refine ⟨fuse1_bnd h.fuse, ⟨by simp only; omega, by simp only; omega⟩, fun l hl => ?_⟩
      rcases List.mem_or_eq_of_mem_set hl with e | e
      · exact hm.few l e
      · rw [e, List.length_append, List.length_singleton]
        have := getD_len h.few x.i.toNat
        omega
  split
  · unfold Dk.flush
    split
    · exact hm
    split
    · exact ⟨h.fuse, hm.ops, hm.few⟩
    · exact ⟨fuse1_bnd h.fuse, ⟨by simp only [Dk.upTo]; omega, by simp only [Dk.upTo]; omega⟩, upTo_writes (⟨d.safe, d.writes, fuse1 d.fuse, d.down, d.ops + 1⟩ : Dk) d.last _ hm.few _⟩
  split
  · split
    · exact hm
    · exact ⟨⟨hx, by simp only; omega⟩, hm.ops, hm.few⟩
  split
  · exact ⟨h.fuse, hm.ops, hm.few⟩
  split
  · unfold Dk.back
    split
    · exact ⟨⟨by simp only; omega, by simp only; omega⟩, hm.ops, upTo_writes d (fate d x.keep x.tn x.at') _ hm.few _⟩
    · exact hm
  · exact hm
theorem DkAt.h128 {w : World} {S : Nat → Prop} {db : Nat} {d : Dk} (h : DkAt w S db d) : ∀ j q, j < d.safe.length → q < (d.writes.getD j []).length + 1 → ((d.safe.getD j [] :: d.writes.getD j []).getD q []).length = 128 := by
  obtain ⟨sb, wb, kS, kW, ws, h⟩ := h
  intro j q hj hq
  cases q with
  | zero =>
    rw [List.getD_cons_zero]
    exact rows_len h.ls j hj
  | succ q =>
    rw [List.getD_cons_succ]
    have hjw : j < d.writes.length := by rw [h.lr]; exact hj
    have e : d.writes.getD j [] = d.writes[j] := by rw [List.getD_eq_getElem?_getD, List.getElem?_eq_getElem hjw]; rfl
    rw [e] at hq ⊢
    exact rows_len (h.lwr _ (List.getElem_mem hjw)) q (by omega)
end Go.Proofs.Ytfmpafheodpfoaa
