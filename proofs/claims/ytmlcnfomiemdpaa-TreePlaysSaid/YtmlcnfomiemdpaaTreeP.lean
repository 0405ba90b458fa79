/- Trees: as plain data, and where they lie. No function of the program in sight. -/
import Derived.Test.YtmlcnfomiemdpaaBase
import Derived.Lib.Bytealg
namespace Go.Proofs.Ytmlcnfomiemdpaa
open Go.RowKit

inductive T where
  | nil
  | node (k v : List UInt8) (l r : T)
def T.deep : T → Nat
  | .nil => 0
  | .node _ _ l r => 1 + max l.deep r.deep
def T.many : T → Nat
  | .nil => 0
  | .node _ _ l r => 1 + l.many + r.many
theorem T.deep_le : ∀ (t : T), t.deep ≤ t.many
  | .nil => Nat.le_refl _
  | .node _ _ l r => by have := l.deep_le; have := r.deep_le; simp only [T.deep, T.many]; omega
theorem T.deep_pos {t : T} (h : 0 < t.deep) : ∃ k v l r, t = .node k v l r := by
  cases t with
  | nil => simp [T.deep] at h
  | node k v l r => exact ⟨k, v, l, r, rfl⟩
/-- A pair between two trees, one of which may be deeper by two. -/
def T.level (k v : List UInt8) (l r : T) : T :=
  if r.deep + 1 < l.deep then
    match l with
    | .nil => .node k v l r
    | .node lk lv ll lr =>
      if lr.deep ≤ ll.deep then .node lk lv ll (.node k v lr r)
      else match lr with
        | .nil => .node k v l r
        | .node mk mv ml mr => .node mk mv (.node lk lv ll ml) (.node k v mr r)
  else if l.deep + 1 < r.deep then
    match r with
    | .nil => .node k v l r
    | .node rk rv rl rr =>
      if rl.deep ≤ rr.deep then .node rk rv (.node k v l rl) rr
      else match rl with
        | .nil => .node k v l r
        | .node mk mv ml mr => .node mk mv (.node k v l ml) (.node rk rv mr rr)
  else .node k v l r
def T.put (k v : List UInt8) : T → T
  | .nil => .node k v .nil .nil
  | .node k' v' l r =>
    if Lib.compareBytes k k' < 0 then T.level k' v' (l.put k v) r
    else if 0 < Lib.compareBytes k k' then T.level k' v' l (r.put k v)
    else .node k v l r
def T.find (k : List UInt8) : T → T
  | .nil => .nil
  | .node k' v' l r =>
    if Lib.compareBytes k k' < 0 then l.find k
    else if 0 < Lib.compareBytes k k' then r.find k
    else .node k' v' l r
theorem T.level_many (k v : List UInt8) (l r : T) : (T.level k v l r).many = 1 + l.many + r.many := by
  unfold T.level
  split
  · split
    · simp [T.many]
    · split
      · simp only [T.many]; omega
      · split <;> simp only [T.many] <;> omega
  · split
    · split
      · simp [T.many]
      · split
        · simp only [T.many]; omega
        · split <;> simp only [T.many] <;> omega
    · simp [T.many]
theorem T.put_many (k v : List UInt8) : ∀ (t : T), (t.put k v).many ≤ t.many + 1
  | .nil => by simp [T.put, T.many]
  | .node k' v' l r => by
    have := l.put_many k v
    have := r.put_many k v
    unfold T.put
    split
    · rw [T.level_many]; simp only [T.many]; omega
    · split
      · rw [T.level_many]; simp only [T.many]; omega
      · simp only [T.many]; omega

/-! ### where a tree lies -/
/-- Bytes that lie in one of some blocks. -/
def By (B : Nat → Prop) (w : World) (v : Value) (l : List UInt8) : Prop := ∃ b, (l ≠ [] → B b) ∧ Bytes b (b + 1) w v l
def On (B : Nat → Prop) (w w' : World) : Prop := ∀ k, B k → w'.heap[k]? = w.heap[k]?
theorem On.agree {B : Nat → Prop} {w w' : World} (h : On B w w') {b : Nat} (hb : B b) : Agree b (b + 1) w w' := fun k h1 h2 => by
  obtain rfl : k = b := by omega
  exact h k hb
theorem Bytes.ofNil {lo hi lo' hi' : Nat} {w w' : World} {v : Value} (h : Bytes lo hi w v []) : Bytes lo' hi' w' v [] := by
  obtain ⟨ao, cap, rfl, -, h2, h3, -⟩ := h.form
  exact Sl.empty _ _ _ _ _ _ _ (by simpa [maxLen] using h2) h3
theorem By.on {B B' : Nat → Prop} {w w' : World} {v : Value} {l : List UInt8} (h : By B w v l) (ho : On B w w') (hB : ∀ b, B b → B' b) : By B' w' v l := by
  obtain ⟨b, hb, hs⟩ := h
  by_cases hl : l = []
  · subst hl
    exact ⟨b, fun h => absurd rfl h, hs.ofNil⟩
  · exact ⟨b, fun h => hB b (hb h), hs.agree (flat_loc _) (ho.agree (hb hl))⟩
theorem By.bytes {B : Nat → Prop} {w : World} {v : Value} {l : List UInt8} (h : By B w v l) {hi : Nat} (hh : ∀ b, B b → b < hi) : Bytes 0 hi w v l := by
  obtain ⟨b, hb, hs⟩ := h
  by_cases hl : l = []
  · subst hl
    exact hs.ofNil
  · have := hh b (hb hl)
    exact hs.mono (flat_loc _) (Nat.zero_le _) (by omega)
def Nd (B : Nat → Prop) (w : World) : T → Value → Prop
  | .nil, p => p = .pointer none
  | .node k v l r, p => ∃ b kv vv lp rp, p = .pointer (some ⟨b, 0, none⟩) ∧ B b ∧ CellsAt w b 0 [kv, vv, lp, rp, .int .i64 ((1 + max l.deep r.deep : Nat) : Int), .int .i64 ((1 + l.many + r.many : Nat) : Int)] ∧ By B w kv k ∧ By B w vv v ∧ Nd B w l lp ∧ Nd B w r rp
theorem Nd.on {B B' : Nat → Prop} {w w' : World} (ho : On B w w') (hB : ∀ b, B b → B' b) : ∀ (t : T) {p : Value}, Nd B w t p → Nd B' w' t p
  | .nil, _, h => h
  | .node k v l r, p, h => by
    obtain ⟨b, kv, vv, lp, rp, e, hb, hc, hk, hv, hl, hr⟩ := h
    exact ⟨b, kv, vv, lp, rp, e, hB b hb, hc.agree (ho.agree hb) (Nat.le_refl _) (by omega), hk.on ho hB, hv.on ho hB, Nd.on ho hB l hl, Nd.on ho hB r hr⟩
theorem Nd.ptr {B : Nat → Prop} {w : World} {t : T} {p : Value} (h : Nd B w t p) : ∃ q, p = .pointer q := by
  cases t with
  | nil => exact ⟨_, h⟩
  | node k v l r => obtain ⟨b, kv, vv, lp, rp, e, -⟩ := h; exact ⟨_, e⟩
theorem By.form {B : Nat → Prop} {w : World} {v : Value} {l : List UInt8} (h : By B w v l) : ∃ ao cap, v = .slice ao l.length cap ∧ l.length ≤ cap ∧ cap ≤ 9223372036854775807 := by
  obtain ⟨b, -, hs⟩ := h
  obtain ⟨ao, cap, e, h1, h2, -⟩ := hs.form
  exact ⟨ao, cap, e, h1, h2⟩
/-- Some old blocks, and all new ones. -/
def Xs (B : Nat → Prop) (lo : Nat) (w : World) : Nat → Prop := fun b => B b ∨ lo ≤ b ∧ b < w.heap.size
theorem Xs.lt {B : Nat → Prop} {lo : Nat} {w : World} (hB : ∀ b, B b → b < lo) (hlo : lo ≤ w.heap.size) {b : Nat} (h : Xs B lo w b) : b < w.heap.size := by
  rcases h with h | h
  · have := hB b h; omega
  · exact h.2
theorem Xs.up {B : Nat → Prop} {lo : Nat} {w w' : World} (h : w.heap.size ≤ w'.heap.size) (b : Nat) (hb : Xs B lo w b) : Xs B lo w' b := by
  rcases hb with hb | hb
  · exact .inl hb
  · exact .inr ⟨hb.1, by omega⟩
theorem Xs.on {B : Nat → Prop} {lo : Nat} {w w' : World} (hB : ∀ b, B b → b < lo) (hlo : lo ≤ w.heap.size) (h : Below w.heap.size w w') : On (Xs B lo w) w w' := fun k hk => h.block k (Xs.lt hB hlo hk)
/-- A tree, or bytes, in some old blocks and new ones. -/
abbrev Tn (B : Nat → Prop) (lo : Nat) (w : World) (t : T) (p : Value) : Prop := Nd (Xs B lo w) w t p
abbrev Ty (B : Nat → Prop) (lo : Nat) (w : World) (v : Value) (l : List UInt8) : Prop := By (Xs B lo w) w v l
theorem Tn.step {B : Nat → Prop} {lo : Nat} {w w' : World} {t : T} {p : Value} (h : Tn B lo w t p) (hB : ∀ b, B b → b < lo) (hlo : lo ≤ w.heap.size) (hb : Below w.heap.size w w') : Tn B lo w' t p :=
  Nd.on (Xs.on hB hlo hb) (Xs.up hb.size) t h
theorem Ty.step {B : Nat → Prop} {lo : Nat} {w w' : World} {v : Value} {l : List UInt8} (h : Ty B lo w v l) (hB : ∀ b, B b → b < lo) (hlo : lo ≤ w.heap.size) (hb : Below w.heap.size w w') : Ty B lo w' v l :=
  By.on h (Xs.on hB hlo hb) (Xs.up hb.size)
/-- A new node. -/
theorem Tn.made {B : Nat → Prop} {lo : Nat} {w : World} {k v : List UInt8} {l r : T} {kv vv lp rp : Value} {b : Nat} {d m : Int} (hb1 : lo ≤ b) (hb2 : b < w.heap.size)
    (hc : CellsAt w b 0 [kv, vv, lp, rp, .int .i64 d, .int .i64 m]) (hd : d = ((1 + max l.deep r.deep : Nat) : Int)) (hm : m = ((1 + l.many + r.many : Nat) : Int))
    (hk : Ty B lo w kv k) (hv : Ty B lo w vv v) (hl : Tn B lo w l lp) (hr : Tn B lo w r rp) : Tn B lo w (.node k v l r) (.pointer (some ⟨b, 0, none⟩)) :=
  ⟨b, kv, vv, lp, rp, rfl, .inr ⟨hb1, hb2⟩, by subst hd hm; exact hc, hk, hv, hl, hr⟩
/-- A row of bytes of the call's own, as bytes in new blocks. -/
theorem Ty.own {B : Nat → Prop} {lo : Nat} {w : World} {e : TypeId} {v : Value} {l : List UInt8} (h : Own bE e 1 lo w v l) : Ty B lo w v l := by
  by_cases hl : l = []
  · subst hl
    exact ⟨0, fun h => absurd rfl h, Bytes.ofNil (Sl.ofOwn (fun _ => rfl) h : Bytes lo w.heap.size w v [])⟩
  · obtain ⟨g, cap, rfl, h1, h2, h3, h4, h5, h6⟩ := h.form hl
    exact ⟨g, fun _ => .inr ⟨h1, h2⟩, Bytes.ofCells h5 (Nat.le_refl _) (by omega) h3 (by simpa [maxLen] using h4)⟩
/-- A tree's own pointer: none, or a variable that holds its top. -/
def Tr (B : Nat → Prop) (lo : Nat) (w : World) (t : T) (p : Value) : Prop := (p = .pointer none ∧ t = .nil) ∨ ∃ b q, p = .pointer (some ⟨b, 0, none⟩) ∧ Xs B lo w b ∧ w.cell? ⟨b, 0, none⟩ = some (.pointer q) ∧ Tn B lo w t (.pointer q)
theorem Tr.step {B : Nat → Prop} {lo : Nat} {w w' : World} {t : T} {p : Value} (h : Tr B lo w t p) (hB : ∀ b, B b → b < lo) (hlo : lo ≤ w.heap.size) (hb : Below w.heap.size w w') : Tr B lo w' t p := by
  rcases h with h | ⟨b, q, e, hx, hc, ht⟩
  · exact .inl h
  · exact .inr ⟨b, q, e, Xs.up hb.size b hx, by rw [World.cell?_of_block (hb.block b (Xs.lt hB hlo hx))]; exact hc, Tn.step ht hB hlo hb⟩
end Go.Proofs.Ytmlcnfomiemdpaa
