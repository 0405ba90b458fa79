/- Rows of bytes of the call's own, in this seat's types. -/
import Derived.Test.YtfmpafheodpfoaaBase
import Derived.Test.YtfmpafheodpfoaaProg
namespace Go.Proofs.Ytfmpafheodpfoaa
open Go.RowKit

abbrev OwnB := Own bE 5 1
theorem infoB : (Try.prog.info? 5).map (fun i => (i.zero, i.size, i.bytes)) = some (some (.int .u8 0), 1, 1) := by kernel_rfl
theorem appB {w : World} {lo : Nat} {v : Value} {xs ys : List UInt8} (h : OwnB lo w v xs) {x : Value} {tx ty : TypeId} (hs : Src Try.prog 1 tx x ys.length (ys.flatMap bE) w) (hb : xs.length + ys.length ≤ 140737488355328) (hlo : lo ≤ w.heap.size) :
    ∃ v' w', (Builtin.append_ #[30, tx] ty #[v, x]).run Try.prog w = .ok v' w' ∧ OwnB lo w' v' (xs ++ ys) ∧ Appended w v w' v' := by
  obtain ⟨i0, hi, hz0, hz1, hz2⟩ := info_parts infoB
  exact h.app _ _ _ i0 _ 1 Try.underlying30 hi hz0 hz1 hz2 rfl hs (by omega) (Nat.le_refl _) hlo
theorem OwnB.bytes {lo : Nat} {w : World} {v : Value} {xs : List UInt8} (h : OwnB lo w v xs) : Bytes lo w.heap.size w v xs := Sl.ofOwn (fun _ => rfl) h
theorem str {w : World} {lo hi : Nat} {v : Value} {l : List UInt8} (h : Bytes lo hi w v l) : (convert 30 9 v).run Try.prog w = .ok (.string ⟨l.toArray⟩) w :=
  run_ofBytes h _ _ _ Try.underlying30 Try.underlying5 Try.underlying9
/-- Bytes in a new row of the call's own, as what is appended. -/
theorem srcRow {w : World} {b n c : Nat} {ys : List UInt8} (h : CellsAt w b 0 (ys.flatMap bE)) (hn : n = ys.length) : Src Try.prog 1 30 (.slice (some ⟨b, 0, none⟩) n c) ys.length (ys.flatMap bE) w := by
  subst hn
  refine Src.ofSlice w Try.underlying30 _ _ _ _ (by simp [flatMap_bE]) (fun j u hu => by rw [Addr.add_lit]; exact h j u hu) (fun u hu => ?_)
  rw [flatMap_bE] at hu
  obtain ⟨c, -, rfl⟩ := List.mem_map.1 hu
  rfl

/-- One byte, from a new row of one cell. -/
theorem app1x {w : World} {lo : Nat} {v : Value} {xs : List UInt8} (h : OwnB lo w v xs) (c : UInt8) {x : Int} (hx : x = c.toNat) (n : Nat) (hn : n = w.heap.size) (hb : xs.length + 1 ≤ 140737488355328) (hlo : lo ≤ w.heap.size) :
    ∃ v' w', (Builtin.append_ #[30, 30] 30 #[v, .slice (some ⟨n, 0, none⟩) 1 1]).run Try.prog (w.alloc (.cells #[.int .u8 x] 5)) = .ok v' w' ∧ OwnB lo w' v' (xs ++ [c]) ∧ Appended w v w' v' := by
  subst hx hn
  have hB : Below w.heap.size w (w.alloc (.cells #[.int .u8 c.toNat] 5)) := (Below.refl _ _).alloc (Nat.le_refl _) _
  obtain ⟨v', w', hr, ho, ha⟩ := appB (ys := [c]) (h.kept hB) (srcRow (CellsAt.newAt w [.int .u8 c.toNat] 5 rfl) rfl) hb (Nat.le_trans hlo hB.size)
  exact ⟨v', w', hr, ho, (Appended.step v hB).trans ha⟩
theorem app1 {w : World} {lo : Nat} {v : Value} {xs : List UInt8} (h : OwnB lo w v xs) (c : UInt8) (hb : xs.length + 1 ≤ 140737488355328) (hlo : lo ≤ w.heap.size) :
    ∃ v' w', (Builtin.append_ #[30, 30] 30 #[v, .slice (some ⟨w.heap.size, 0, none⟩) 1 1]).run Try.prog (w.alloc (.cells #[.int .u8 c.toNat] 5)) = .ok v' w' ∧ OwnB lo w' v' (xs ++ [c]) ∧ Appended w v w' v' := app1x h c rfl _ rfl hb hlo
theorem app2 {w : World} {lo : Nat} {v : Value} {xs : List UInt8} (h : OwnB lo w v xs) (c d : UInt8) (hb : xs.length + 2 ≤ 140737488355328) (hlo : lo ≤ w.heap.size) :
    ∃ v' w', (Builtin.append_ #[30, 30] 30 #[v, .slice (some ⟨w.heap.size, 0, none⟩) 2 2]).run Try.prog (w.alloc (.cells #[.int .u8 c.toNat, .int .u8 d.toNat] 5)) = .ok v' w' ∧ OwnB lo w' v' (xs ++ [c, d]) ∧ Appended w v w' v' := by
  have hB : Below w.heap.size w (w.alloc (.cells #[.int .u8 c.toNat, .int .u8 d.toNat] 5)) := (Below.refl _ _).alloc (Nat.le_refl _) _
  obtain ⟨v', w', hr, ho, ha⟩ := appB (ys := [c, d]) (h.kept hB) (srcRow (CellsAt.newAt w [.int .u8 c.toNat, .int .u8 d.toNat] 5 rfl) rfl) hb (Nat.le_trans hlo hB.size)
  exact ⟨v', w', hr, ho, (Appended.step v hB).trans ha⟩
theorem OwnB.mono {lo lo' : Nat} {w : World} {v : Value} {xs : List UInt8} (h : OwnB lo w v xs) (hb : lo' ≤ lo) : OwnB lo' w v xs :=
  ⟨h.1, h.2.imp id fun ⟨g, cap, cur, h1, h2, h3⟩ => ⟨g, cap, cur, h1, Nat.le_trans hb h2, h3⟩⟩
end Go.Proofs.Ytfmpafheodpfoaa
