/- A row of the call's own that may begin behind its block's beginning (cells of one size). -/
import Derived.Test.YtfmpafheodpfoaaOwnB
import Derived.ArgAppend
namespace Go.Proofs.Ytfmpafheodpfoaa
open Go.RowKit

def OwnO (e : TypeId) (lo : Nat) (w : World) (v : Value) (cs : List Value) : Prop :=
  ∃ g o cap cur, v = .slice (some ⟨g, o, none⟩) cs.length cap ∧ lo ≤ g ∧ w.heap[g]? = some (.cells cur e (0, 0)) ∧ cs.length ≤ cap ∧ cap ≤ maxLen ∧ o + cap ≤ cur.size ∧ ∀ j u, cs[j]? = some u → cur[o + j]? = some u
theorem OwnO.lt {e : TypeId} {lo : Nat} {w : World} {v : Value} {cs : List Value} (h : OwnO e lo w v cs) : ∀ g, v.ownBlock = some g → lo ≤ g ∧ g < w.heap.size := by
  obtain ⟨g, o, cap, cur, rfl, h1, h2, -⟩ := h
  intro k hk
  simp only [Value.ownBlock, Option.some.injEq] at hk
  subst hk
  exact ⟨h1, (Array.getElem?_eq_some_iff.1 h2).1⟩
theorem OwnO.same {e : TypeId} {lo : Nat} {w w' : World} {v : Value} {cs : List Value} (h : OwnO e lo w v cs) (hb : ∀ g, v.ownBlock = some g → w'.heap[g]? = w.heap[g]?) : OwnO e lo w' v cs := by
  obtain ⟨g, o, cap, cur, rfl, h1, h2, h3⟩ := h
  exact ⟨g, o, cap, cur, rfl, h1, (hb g rfl).trans h2, h3⟩
/-- A part of it, from a place on. -/
theorem OwnO.drop {e : TypeId} {lo g o n cap : Nat} {w : World} {cs : List Value} (h : OwnO e lo w (.slice (some ⟨g, o, none⟩) n cap) cs) (k : Nat) (hk : k ≤ n) : OwnO e lo w (.slice (some ⟨g, o + k, none⟩) (n - k) (cap - k)) (cs.drop k) := by
  obtain ⟨g2, o2, cap2, cur, e1, h1, h2, h3, h4, h5, h6⟩ := h
  injection e1 with e1 e2 e3
  injection e1 with e1
  injection e1 with e1 e4
  subst e1 e2 e3 e4
  refine ⟨g, o + k, cap - k, cur, by rw [List.length_drop], h1, h2, by rw [List.length_drop]; omega, by omega, by omega, fun j u hu => ?_⟩
  rw [List.getElem?_drop] at hu
  rw [Nat.add_assoc]
  exact h6 _ u hu
theorem OwnO.cells {e : TypeId} {lo g o n cap : Nat} {w : World} {cs : List Value} (h : OwnO e lo w (.slice (some ⟨g, o, none⟩) n cap) cs) : CellsAt w g o cs ∧ n = cs.length := by
  obtain ⟨g2, o2, cap2, cur, e1, h1, h2, h3, h4, h5, h6⟩ := h
  injection e1 with e1 e2 e3
  injection e1 with e1
  injection e1 with e1 e4
  subst e1 e2 e3 e4
  exact ⟨fun j u hu => by simp [World.cell?, h2, h6 j u hu], rfl⟩
theorem OwnO.ofOwn {e : TypeId} {lo : Nat} {w : World} {v : Value} {n : Nat} {cs : List Value} (h : w.ownsRow lo e 1 v n cs) (hne : n ≠ 0) : OwnO e lo w v cs := by
  obtain ⟨h1, h2⟩ := h
  rw [Nat.mul_one] at h1
  rcases h2 with ⟨-, hn⟩ | ⟨g, cap, cur, rfl, hb, hg, hnc, hcm, hcs, htake⟩
  · exact absurd hn hne
  · refine ⟨g, 0, cap, cur, by rw [h1], hb, hg, by omega, hcm, by omega, fun j u hu => ?_⟩
    rw [Nat.mul_one] at htake
    rw [Nat.zero_add, ← Array.getElem?_toList]
    have hj := (List.getElem?_eq_some_iff.1 hu).1
    rw [← htake, List.getElem?_take] at hu
    split at hu
    · exact hu
    · cases hu
theorem OwnO.app {P : Program} {e : TypeId} {lo : Nat} {w : World} {v : Value} {cs : List Value} (h : OwnO e lo w v cs) (t ty : TypeId) (i : TypeInfo) (z : Value) (bytes : Nat) (ht : P.underlying t = some (.slice e)) (hi : P.info? e = some i) (hz : i.zero = some z)
    (hsize : i.size = 1) (hby : i.bytes = bytes) (hzs : z.cells.size = 1) (u : Value) (hu : u.oneCell' = true) (b c : Nat) (hb : w.cell? ⟨b, 0, none⟩ = some u) (hbytes : (cs.length + 1) * bytes ≤ 140737488355328) (hl63 : cs.length + 1 ≤ maxLen) (hlo : lo ≤ w.heap.size) :
    ∃ v' w', (Builtin.append_ #[t, t] ty #[v, .slice (some ⟨b, 0, none⟩) 1 c]).run P w = .ok v' w' ∧ OwnO e lo w' v' (cs ++ [u]) ∧ Appended w v w' v' := by
  obtain ⟨g, o, cap, cur, rfl, h1, h2, h3, h4, h5, h6⟩ := h
  have hn : ∀ j x, ([u] : List Value)[j]? = some x → w.cell? ((⟨b, 0, none⟩ : Addr).add j) = some x := fun j x hx => by
    have hj := (List.getElem?_eq_some_iff.1 hx).1
    obtain rfl : j = 0 := by simp at hj; exact hj
    simp at hx
    subst hx
    simpa [Addr.add_lit] using hb
  have hone : ∀ x ∈ [u], x.oneCell' = true := fun x hx => by rw [List.mem_singleton.1 hx]; exact hu
  by_cases hroom : cs.length + 1 ≤ cap
  · have hcell : ∀ j, j < ([u] : List Value).length → (w.cell? ⟨g, o + cs.length * i.size + j, none⟩).isSome = true := fun j hj => by
      rw [hsize, Nat.mul_one]
      have hk : o + cs.length + j < cur.size := by simp at hj; omega
      simp [World.cell?, h2, hk]
    have hr := run_append_room_cells (P := P) w (ty := ty) t e i ht hi g o cs.length cap ⟨b, 0, none⟩ 1 c [u] (by rw [hsize]; rfl) hn hone hroom hcell (fun j hj => by simp [World.frozen?, h2])
    rw [hsize, Nat.mul_one] at hr
    have hB : Blk w g cur.toList e := by show w.heap[g]? = _; rw [h2]
    have hB2 := hB.set (o + cs.length) u
    refine ⟨_, _, hr, ⟨g, o, cap, (cur.toList.set (o + cs.length) u).toArray, by rw [List.length_append, List.length_singleton], h1, hB2, by rw [List.length_append, List.length_singleton]; exact hroom, h4, by simp; omega, fun j x hx => ?_⟩, ⟨⟨rfl, rfl, rfl, by simp [World.setCells, World.setCell], fun k _ hk => Below.heap_setCell _ _ _ _ (fun e => hk (by rw [e]; rfl))⟩, .inl rfl⟩⟩
    rw [List.getElem?_toArray, List.getElem?_set]
    by_cases hj : j = cs.length
    · subst hj
      rw [List.getElem?_append_right (Nat.le_refl _), Nat.sub_self] at hx
      simp at hx
      have hk : o + cs.length < cur.size := by omega
      simp [hx, hk]
    · have hjl : j < cs.length := by
        have := (List.getElem?_eq_some_iff.1 hx).1
        rw [List.length_append, List.length_singleton] at this
        omega
      rw [if_neg (by omega), Array.getElem?_toList]
      rw [List.getElem?_append_left hjl] at hx
      exact h6 j x hx
  · obtain ⟨v', w', hr, ho, hg⟩ := run_append_arg_grows (P := P) w (ty := ty) t e i z 1 bytes ht hi hz hsize hby hzs (by omega) ⟨g, o, none⟩ cs.length cap cs (by rw [Nat.mul_one]) (fun j x hx => by
      rw [Addr.add_lit]
      simp [World.cell?, h2, h6 j x hx]) ⟨b, 0, none⟩ 1 c [u] rfl hn (by omega) hl63 hbytes
    have hlt := ho.lt
    obtain ⟨g2, e2⟩ : ∃ g2, v'.ownBlock = some g2 := by
      obtain ⟨g2, o2, cap2, cur2, rfl, -⟩ := OwnO.ofOwn ho (by omega)
      exact ⟨g2, rfl⟩
    refine ⟨v', w', hr, ?_, ⟨⟨hg.os, hg.tape, hg.output, hg.size, fun k hk _ => hg.block k hk (by simp)⟩, .inr ⟨g2, e2, (hlt g2 e2).1⟩⟩⟩
    obtain ⟨g3, o3, cap3, cur3, a1, a2, a3⟩ := OwnO.ofOwn ho (by omega)
    exact ⟨g3, o3, cap3, cur3, a1, Nat.le_trans hlo a2, a3⟩
end Go.Proofs.Ytfmpafheodpfoaa
