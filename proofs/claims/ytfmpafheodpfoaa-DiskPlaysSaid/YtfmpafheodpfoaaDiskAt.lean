/- Where a disk lies; sectors in memory. -/
import Derived.Test.YtfmpafheodpfoaaDiskNew
import Derived.Test.YtfmpafheodpfoaaOnly
namespace Go.Proofs.Ytfmpafheodpfoaa
open Go.RowKit

structure Dk where
  safe : List (List UInt8)
  writes : List (List (List UInt8))
  fuse : Int
  down : Bool
  ops : Int
abbrev OwnS := Own secE 73 128 0
/-- A sector's writes: none is told by no row at all. -/
def RowS (w : World) (v : Value) (xs : List (List UInt8)) : Prop := (xs = [] → v = .slice none 0 0) ∧ OwnS w v xs
/-- A block that begins with some cells. -/
def BlkP (w : World) (b : Nat) (cs : List Value) (t : TypeId) : Prop := ∃ tl, Blk w b (cs ++ tl) t
theorem Blk.p {w : World} {b : Nat} {cs : List Value} {t : TypeId} (h : Blk w b cs t) : BlkP w b cs t := ⟨[], by rw [List.append_nil]; exact h⟩
theorem BlkP.lt {w : World} {b : Nat} {cs : List Value} {t : TypeId} (h : BlkP w b cs t) : b < w.heap.size := by
  obtain ⟨tl, h⟩ := h
  exact h.lt
theorem BlkP.free {w : World} {b : Nat} {cs : List Value} {t : TypeId} (h : BlkP w b cs t) (i : Nat) : w.frozen? ⟨b, i, none⟩ = false := by
  obtain ⟨tl, h⟩ := h
  exact h.free i
theorem BlkP.cells {w : World} {b : Nat} {cs : List Value} {t : TypeId} (h : BlkP w b cs t) : CellsAt w b 0 cs := by
  obtain ⟨tl, h⟩ := h
  exact fun j v e => h.cells j v (by rw [List.getElem?_append_left (List.getElem?_eq_some_iff.1 e).1]; exact e)
theorem BlkP.keep {w w' : World} {b : Nat} {cs : List Value} {t : TypeId} (h : BlkP w b cs t) (e : w'.heap[b]? = w.heap[b]?) : BlkP w' b cs t := by
  obtain ⟨tl, h⟩ := h
  exact ⟨tl, e.trans h⟩
theorem BlkP.set {w : World} {b : Nat} {cs : List Value} {t : TypeId} (h : BlkP w b cs t) (i : Nat) (hi : i < cs.length) (v : Value) : BlkP (w.setCell ⟨b, i, none⟩ v) b (cs.set i v) t := by
  obtain ⟨tl, h⟩ := h
  exact ⟨tl, by rw [← List.set_append_left _ _ hi]; exact h.set i v⟩
/-- A disk in blocks of which S holds: its cells, the safe sectors, the heads of the writes, and a row for each sector that has writes; rows are apart. -/
structure DkIn (w : World) (S : Nat → Prop) (db sb wb kS kW : Nat) (ws : List Value) (d : Dk) : Prop where
  hd : Hd w db (.slice (some ⟨sb, 0, none⟩) d.safe.length kS) (.slice (some ⟨wb, 0, none⟩) d.safe.length kW) d.fuse d.down d.ops
  hs : BlkP w sb (d.safe.flatMap secE) 73
  hw : BlkP w wb ws 64
  lw : ws.length = d.safe.length
  lr : d.writes.length = d.safe.length
  row : ∀ i (h : i < ws.length) (h2 : i < d.writes.length), RowS w ws[i] d.writes[i]
  apart : ∀ i j (h : i < ws.length) (h2 : j < ws.length) g, ws[i].ownBlock = some g → ws[j].ownBlock = some g → i = j
  mine : ∀ i (h : i < ws.length) g, ws[i].ownBlock = some g → S g ∧ g ≠ db ∧ g ≠ sb ∧ g ≠ wb
  sd : S db
  ss : S sb
  sw : S wb
  ds : db ≠ sb
  dw : db ≠ wb
  sbw : sb ≠ wb
  ls : ∀ s ∈ d.safe, s.length = 128
  lwr : ∀ l ∈ d.writes, ∀ s ∈ l, s.length = 128
  pos : 0 < d.safe.length
  cap : d.safe.length ≤ 65536
def DkAt (w : World) (S : Nat → Prop) (db : Nat) (d : Dk) : Prop := ∃ sb wb kS kW ws, DkIn w S db sb wb kS kW ws d
def Dk.last (d : Dk) (i : Nat) : List UInt8 := ((d.writes.getD i []).getLast?).getD (d.safe.getD i [])

theorem Own.same {α : Type} {enc : α → List Value} {e : TypeId} {size lo : Nat} {w w' : World} {v : Value} {xs : List α} (h : Own enc e size lo w v xs) (hb : ∀ g, v.ownBlock = some g → w'.heap[g]? = w.heap[g]?) : Own enc e size lo w' v xs :=
  ⟨h.1, h.2.imp id fun ⟨g, cap, cur, h1, h2, h3, h4⟩ => ⟨g, cap, cur, h1, h2, (hb g (by rw [h1]; rfl)).trans h3, h4⟩⟩
theorem DkIn.keep {w w' : World} {S S' : Nat → Prop} {db sb wb kS kW : Nat} {ws : List Value} {d : Dk} (h : DkIn w S db sb wb kS kW ws d) (hb : ∀ k, S k → k < w.heap.size → w'.heap[k]? = w.heap[k]?) (hS : ∀ k, S k → S' k) : DkIn w' S' db sb wb kS kW ws d where
  hd := (hb db h.sd h.hd.lt).trans h.hd
  hs := h.hs.keep (hb sb h.ss h.hs.lt)
  hw := h.hw.keep (hb wb h.sw h.hw.lt)
  lw := h.lw
  lr := h.lr
  row := fun i h1 h2 => ⟨(h.row i h1 h2).1, (h.row i h1 h2).2.same fun g hg => hb g (h.mine i h1 g hg).1 ((h.row i h1 h2).2.lt g hg).2⟩
  apart := h.apart
  mine := fun i h1 g hg => ⟨hS g (h.mine i h1 g hg).1, (h.mine i h1 g hg).2⟩
  sd := hS _ h.sd
  ss := hS _ h.ss
  sw := hS _ h.sw
  ds := h.ds
  dw := h.dw
  sbw := h.sbw
  ls := h.ls
  lwr := h.lwr
  pos := h.pos
  cap := h.cap
theorem DkAt.keep {w w' : World} {S S' : Nat → Prop} {db : Nat} {d : Dk} (h : DkAt w S db d) (hb : ∀ k, S k → k < w.heap.size → w'.heap[k]? = w.heap[k]?) (hS : ∀ k, S k → S' k) : DkAt w' S' db d := by
  obtain ⟨sb, wb, kS, kW, ws, h⟩ := h
  exact ⟨sb, wb, kS, kW, ws, h.keep hb hS⟩
theorem DkAt.below {w w' : World} {S : Nat → Prop} {db : Nat} {d : Dk} (h : DkAt w S db d) (hB : Below w.heap.size w w') : DkAt w' S db d := h.keep (fun k _ hk => hB.block k hk) (fun _ h => h)
theorem DkAt.only {w w' : World} {S A : Nat → Prop} {db : Nat} {d : Dk} (h : DkAt w S db d) (hO : Only A w w') (hA : ∀ k, S k → k < w.heap.size → ¬ A k) : DkAt w' S db d := h.keep (fun k hs hk => hO.block k hk (hA k hs hk)) (fun _ h => h)
theorem DkAt.mono {w : World} {S S' : Nat → Prop} {db : Nat} {d : Dk} (h : DkAt w S db d) (hS : ∀ k, S k → S' k) : DkAt w S' db d := h.keep (fun _ _ _ => rfl) hS

theorem secE_length (s : List UInt8) : (secE s).length = s.length := by rw [secE, flatMap_bE, List.length_map]
theorem secs_length : ∀ (m : List (List UInt8)), (∀ s ∈ m, s.length = 128) → (m.flatMap secE).length = m.length * 128 := by
  intro m
  induction m with
  | nil => intro _; rfl
  | cons s m ih =>
    intro hm
    rw [List.flatMap_cons, List.length_append, ih (fun x hx => hm x (List.mem_cons_of_mem _ hx)), secE_length, hm s (List.mem_cons_self ..), List.length_cons]
    omega
theorem secs_at {w : World} {b : Nat} {l : List (List UInt8)} (h : CellsAt w b 0 (l.flatMap secE)) (hl : ∀ s ∈ l, s.length = 128) (i : Nat) (hi : i < l.length) : CellsAt w b (i * 128) (secE l[i]) := fun j v hj => by
  have hx : l = l.take i ++ l[i] :: l.drop (i + 1) := by rw [← List.drop_eq_getElem_cons hi, List.take_append_drop]
  have h1 : (l.take i).flatMap secE ++ (secE l[i] ++ (l.drop (i + 1)).flatMap secE) = l.flatMap secE := by
    conv => rhs; rw [hx, List.flatMap_append, List.flatMap_cons]
  have h2 := secs_length (l.take i) (fun s hs => hl s (List.mem_of_mem_take hs))
  rw [List.length_take, Nat.min_eq_left (by omega)] at h2
  have h3 := h (i * 128 + j) v (by
    rw [← h1, List.getElem?_append_right (by omega), h2, show i * 128 + j - i * 128 = j by omega, List.getElem?_append_left (by have := (List.getElem?_eq_some_iff.1 hj).1; exact this)]
    exact hj)
  rwa [Nat.zero_add] at h3
theorem sec_at' {w : World} {b : Nat} {l : List (List UInt8)} {t : TypeId} (h : BlkP w b (l.flatMap secE) t) (hl : ∀ s ∈ l, s.length = 128) (i : Nat) (hi : i < l.length) : CellsAt w b (i * 128) (secE l[i]) := secs_at h.cells hl i hi
theorem sizeS : (Try.prog.info? 73).map (·.size) = some 128 := by kernel_rfl
theorem there_sec {w : World} {b o : Nat} {s : List UInt8} (h : CellsAt w b o (secE s)) (hl : s.length = 128) (hf : ∀ j, w.frozen? ⟨b, j, none⟩ = false) : w.there b o 128 := fun j hj => by
  have hjl : j < (secE s).length := by rw [secE_length]; omega
  exact ⟨by rw [h j _ (List.getElem?_eq_getElem hjl)]; rfl, hf _⟩
theorem one_sec (s : List UInt8) : (secE s).toArray.all (·.oneCell') = true := all_oneCell_toArray (fun v hv => by
  rw [secE, flatMap_bE] at hv
  obtain ⟨c, -, rfl⟩ := List.mem_map.1 hv
  rfl)
/-- A list with cells turned from a place on. -/
def spl : List Value → Nat → List Value → List Value
  | cs, _, [] => cs
  | cs, o, v :: r => spl (cs.set o v) (o + 1) r
theorem blk_setCells {b : Nat} {t : TypeId} : ∀ (vs : List Value) (o : Nat) (w : World) (cs : List Value), Blk w b cs t → Blk (w.setCells b o vs) b (spl cs o vs) t
  | [], _, _, _, h => h
  | v :: r, o, _, _, h => blk_setCells r (o + 1) _ _ (h.set o v)
theorem spl_mid : ∀ (vs A B C : List Value), B.length = vs.length → spl (A ++ (B ++ C)) A.length vs = A ++ (vs ++ C)
  | [], A, B, C, h => by
    obtain rfl := List.eq_nil_of_length_eq_zero h
    rfl
  | v :: r, A, [], C, h => by cases h
  | v :: r, A, x :: B, C, h => by
    have := spl_mid r (A ++ [v]) B C (by simpa using h)
    rw [List.length_append, List.length_singleton, List.append_assoc, List.append_assoc] at this
    rw [spl, List.cons_append, List.set_append_right _ _ (Nat.le_refl _), Nat.sub_self, List.set_cons_zero]
    exact this
theorem spl_sec (l : List (List UInt8)) (hl : ∀ s ∈ l, s.length = 128) (i : Nat) (hi : i < l.length) (t : List UInt8) (ht : t.length = 128) : spl (l.flatMap secE) (i * 128) (secE t) = (l.set i t).flatMap secE := by
  have hx : l = l.take i ++ l[i] :: l.drop (i + 1) := by rw [← List.drop_eq_getElem_cons hi, List.take_append_drop]
  have h1 : (l.take i).flatMap secE ++ (secE l[i] ++ (l.drop (i + 1)).flatMap secE) = l.flatMap secE := by
    conv => rhs; rw [hx, List.flatMap_append, List.flatMap_cons]
  have h2 := secs_length (l.take i) (fun s hs => hl s (List.mem_of_mem_take hs))
  rw [List.length_take, Nat.min_eq_left (by omega)] at h2
  have h3 := spl_mid (secE t) ((l.take i).flatMap secE) (secE l[i]) ((l.drop (i + 1)).flatMap secE) (by rw [secE_length, secE_length, ht, hl _ (List.getElem_mem hi)])
  rw [h2] at h3
  rw [← h1, h3, List.set_eq_take_append_cons_drop, if_pos hi, List.flatMap_append, List.flatMap_cons]
theorem blk_setS {w : World} {b : Nat} {l : List (List UInt8)} {t : TypeId} (h : Blk w b (l.flatMap secE) t) (hl : ∀ s ∈ l, s.length = 128) (i : Nat) (hi : i < l.length) (s : List UInt8) (hs : s.length = 128) :
    Blk (w.setCells b (i * 128) (secE s)) b ((l.set i s).flatMap secE) t := by rw [← spl_sec l hl i hi s hs]; exact blk_setCells _ _ _ _ h
theorem spl_app : ∀ (vs : List Value) (o : Nat) (A tl : List Value), o + vs.length ≤ A.length → spl (A ++ tl) o vs = spl A o vs ++ tl
  | [], _, _, _, _ => rfl
  | v :: vs, o, A, tl, h => by
    have h2 : o + 1 + vs.length ≤ (A.set o v).length := by simp at h ⊢; omega
    rw [spl, spl, List.set_append_left _ _ (by simp at h; omega), spl_app vs (o + 1) (A.set o v) tl h2]
theorem blk_setP {w : World} {b : Nat} {l : List (List UInt8)} {t : TypeId} (h : BlkP w b (l.flatMap secE) t) (hl : ∀ s ∈ l, s.length = 128) (i : Nat) (hi : i < l.length) (s : List UInt8) (hs : s.length = 128) :
    BlkP (w.setCells b (i * 128) (secE s)) b ((l.set i s).flatMap secE) t := by
  obtain ⟨tl, h⟩ := h
  have hlen := secs_length l hl
  refine ⟨tl, ?_⟩
  rw [← spl_sec l hl i hi s hs, ← spl_app _ _ _ _ (by rw [hlen, secE_length, hs]; omega)]
  exact blk_setCells _ _ _ _ h
theorem blk_set1 {w : World} {b : Nat} {l : List UInt8} {t : TypeId} (h : Blk w b (secE l) t) (hl : l.length = 128) (s : List UInt8) (hs : s.length = 128) : Blk (w.setCells b 0 (secE s)) b (secE s) t := by
  have := blk_setS (l := [l]) (t := t) (w := w) (b := b) (by simpa using h) (by simpa using hl) 0 (by simp) s hs
  simpa using this
theorem setCells_heap (b : Nat) : ∀ (vs : List Value) (o : Nat) (w : World) (k : Nat), k ≠ b → (w.setCells b o vs).heap[k]? = w.heap[k]?
  | [], _, _, _, _ => rfl
  | v :: r, o, w, k, hk => (setCells_heap b r (o + 1) _ k hk).trans (Below.heap_setCell _ _ _ _ hk)
theorem setCells_size (b : Nat) : ∀ (vs : List Value) (o : Nat) (w : World), (w.setCells b o vs).heap.size = w.heap.size
  | [], _, _ => rfl
  | v :: r, o, w => (setCells_size b r (o + 1) _).trans (by simp [World.setCell])
theorem setCells_os (b : Nat) : ∀ (vs : List Value) (o : Nat) (w : World), (w.setCells b o vs).os = w.os ∧ (w.setCells b o vs).tape = w.tape ∧ (w.setCells b o vs).output = w.output
  | [], _, _ => ⟨rfl, rfl, rfl⟩
  | v :: r, o, w => setCells_os b r (o + 1) _
theorem Only.setCells {A : Nat → Prop} (w : World) {b : Nat} (hb : A b) (o : Nat) (vs : List Value) : Only A w (w.setCells b o vs) :=
  ⟨(setCells_os b vs o w).1, (setCells_os b vs o w).2.1, (setCells_os b vs o w).2.2, Nat.le_of_eq (setCells_size b vs o w).symm, fun k _ hk => setCells_heap b vs o w k (fun e => hk (e ▸ hb))⟩
theorem belowSetCells {B : Nat} {a w : World} (h : Below B a w) {b : Nat} (hb : B ≤ b) (o : Nat) (vs : List Value) : Below B a (w.setCells b o vs) :=
  h.trans ⟨(setCells_os b vs o w).1, (setCells_os b vs o w).2.1, (setCells_os b vs o w).2.2, Nat.le_of_eq (setCells_size b vs o w).symm, fun k hk => setCells_heap b vs o w k (by omega)⟩
/-- A sector's variable, read. -/
theorem runVarS {w : World} {b : Nat} {s : List UInt8} (h : CellsAt w b 0 (secE s)) (hl : s.length = 128) : (loadVar 73 ⟨b, 0, none⟩).run Try.prog w = .ok (.agg (secE s).toArray) w :=
  run_loadVar_mid w b 0 73 (secE s) _ h Try.underlying73 rfl (by rw [sizeS, secE_length, hl])
section
variable {ops : Array Oper} {rest : List Oper} {op : Oper} {a : Act} {w : World} {Q : Exit → Act → World → Prop} {x y : Operand} {b o : Nat} {s : List UInt8}
/-- A sector is read, in a region of plain order. -/
theorem atLoadS (hgd : op.guard = none) (ho : op.op = .load 73 x) (hx : a.eval x = .pointer (some ⟨b, o, none⟩)) (hc : CellsAt w b o (secE s)) (hl : s.length = 128)
    (h : wpList Try.prog ops Q rest (a.put op.dst (.agg (secE s).toArray)) w) : wpList Try.prog ops Q (op :: rest) a w :=
  wpList_load_mid hgd 73 x ho b o hx (secE s) _ hc Try.underlying73 rfl (by rw [sizeS, secE_length, hl]) h
/-- A sector is written. -/
theorem atStoreS (hgd : op.guard = none) (ho : op.op = .store 73 x y) (hx : a.eval x = .pointer (some ⟨b, o, none⟩)) (hy : a.eval y = .agg (secE s).toArray) (ht : w.there b o 128) (hl : s.length = 128)
    (h : wpList Try.prog ops Q rest (a.put op.dst undef) (w.setCells b o (secE s))) : wpList Try.prog ops Q (op :: rest) a w := by
  have e : (secE s).toArray.size = 128 := by rw [List.size_toArray, secE_length, hl]
  exact wpList_store_mid hgd 73 x y ho b o (secE s).toArray hx hy (by rw [e]; exact ht) (by rw [sizeS, e]) (one_sec s) h
end
end Go.Proofs.Ytfmpafheodpfoaa
