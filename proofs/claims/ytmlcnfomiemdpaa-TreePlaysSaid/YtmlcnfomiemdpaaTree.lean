/- Trees: the small walks. -/
import Derived.Test.YtmlcnfomiemdpaaTreeP
import Derived.Lib.BytesEntry
import Derived.Test.YtmlcnfomiemdpaaRows
namespace Go.Proofs.Ytmlcnfomiemdpaa
open Go.RowKit

theorem run_bytesOf {P : Program} {lo hi : Nat} {w : World} {v : Value} {l : List UInt8} (h : Bytes lo hi w v l) : (Extern.Bytes.bytesOf v).run P w = .ok ⟨l.toArray⟩ w := by
  have hb : ∀ (l : List UInt8), Lib.bytesOf (l.map fun c => (c.toNat : Int)) = l := by
    intro l
    rw [Lib.bytesOf, List.map_map]
    exact (List.map_congr_left (g := id) (fun c _ => by simp)).trans (List.map_id l)
  rcases h.cases with ⟨rfl, ao, cap, rfl, -, hn⟩ | ⟨hp, b, off, cap, rfl, -, -, -, -, hc⟩
  · cases ao with
    | none => simp [Extern.Bytes.bytesOf]; rfl
    | some a =>
      have := Lib.run_loadBytesX (P := P) w [] a .empty (by simp)
      simp [Extern.Bytes.bytesOf] at *
      rw [this]; rfl
  · have := Lib.run_loadBytesX (P := P) w (l.map fun c => (c.toNat : Int)) ⟨b, off, none⟩ .empty (fun j x hj => by
      simp only [List.getElem?_map, Option.map_eq_some_iff] at hj
      obtain ⟨c, hj, rfl⟩ := hj
      obtain ⟨hjl, rfl⟩ := List.getElem?_eq_some_iff.1 hj
      obtain ⟨cs, -, h1, rfl⟩ := hc j hjl
      have := h1.c1
      rw [Nat.mul_one] at this
      rw [Addr.add_lit]; exact this)
    rw [List.length_map, hb] at this
    simp only [Extern.Bytes.bytesOf]
    rw [this]
    congr 1
    apply ByteArray.ext
    show (#[] : Array UInt8) ++ l.toArray = l.toArray
    simp
theorem run_compareBytesEntry {P : Program} {lo hi lo2 hi2 : Nat} {w : World} {v1 v2 : Value} {a b : List UInt8} (h1 : Bytes lo hi w v1 a) (h2 : Bytes lo2 hi2 w v2 b) :
    (Extern.BytealgCompare.compare #[v1, v2]).run P w = .ok (.int .i64 (Lib.compareBytes a b)) w := by
  change Sem.run P (do pure (goInt (Extern.BytealgCompare.cmp (← Extern.Bytes.bytesOf v1) (← Extern.Bytes.bytesOf v2)))) w = _
  simp only [Sem.run_bind, Sem.run_pure, Result.andThen, run_bytesOf h1, run_bytesOf h2]
  rw [Lib.cmp_eq]
  rfl

set_option maxRecDepth 100000 in
theorem bytes_Compare {lo hi lo2 hi2 : Nat} {v1 v2 : Value} {a b : List UInt8} (w : World) (h1 : Bytes lo hi w v1 a) (h2 : Bytes lo2 hi2 w v2 b) (R : Ending → World → Prop) (hR : R (.returned (.int .i64 (Lib.compareBytes a b))) w) :
    Calls Try.prog 36 #[v1, v2] w R := by
  have hrun := run_compareBytesEntry (P := Try.prog) h1 h2
  clear h1 h2
  go_enter Try.func36, Try.ntmps36
  go_wp2
  rw [run_callFunc_extern Try.func47 (by kernel_rfl) (by kernel_rfl) (by kernel_rfl) (e := Extern.BytealgCompare.compare) (by kernel_rfl), hrun]
  simp only [Result.andThen]
  rw [Oper.upon_value]
  go_wp2
  exact hR

set_option maxRecDepth 100000 in
theorem deep_any (B : Nat → Prop) (t : T) (p : Value) (w : World) (h : Nd B w t p) (R : Ending → World → Prop) (hR : R (.returned (.int .i64 t.deep)) w) : Calls Try.prog 49 #[p] w R := by
  go_enter Try.func49, Try.ntmps49
  cases t with
  | nil =>
    cases h
    go_wp2
    exact hR
  | node k v l r =>
    obtain ⟨b, kv, vv, lp, rp, rfl, hb, hc, -, -, -, -⟩ := h
    obtain ⟨h0, h1, h2, h3, h4, h5⟩ := hc.c6
    clear hc
    go_wp2
    exact hR
set_option maxRecDepth 100000 in
theorem many_any (B : Nat → Prop) (t : T) (p : Value) (w : World) (h : Nd B w t p) (R : Ending → World → Prop) (hR : R (.returned (.int .i64 t.many)) w) : Calls Try.prog 31 #[p] w R := by
  go_enter Try.func31, Try.ntmps31
  cases t with
  | nil =>
    cases h
    go_wp2
    exact hR
  | node k v l r =>
    obtain ⟨b, kv, vv, lp, rp, rfl, hb, hc, -, -, -, -⟩ := h
    obtain ⟨h0, h1, h2, h3, h4, h5⟩ := hc.c6
    clear hc
    go_wp2
    exact hR
end Go.Proofs.Ytmlcnfomiemdpaa
