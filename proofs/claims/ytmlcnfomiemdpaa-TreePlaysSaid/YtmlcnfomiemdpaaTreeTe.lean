/- Trees: one, tells. (Printed by treete.py.) -/
import Derived.Test.YtmlcnfomiemdpaaTreeSa
import Derived.Test.YtmlcnfomiemdpaaTreeRp
import Derived.Test.YtmlcnfomiemdpaaAll
import Derived.Deep.Cut
namespace Go.Proofs.Ytmlcnfomiemdpaa
open Go.RowKit
attribute [local go_sem ↓] Go.wp_at_zero Go.wp_at_succ
set_option linter.unusedVariables false
set_option linter.unusedSimpArgs false

/-- The pair at a place, or none. -/
def atI (l : PL) (i : Int) : (List UInt8 × List UInt8) × Bool := if 0 ≤ i then match l[i.toNat]? with | some x => (x, true) | none => (([], []), false) else (([], []), false)
theorem atI_no {l : PL} {i : Int} (h : i < 0 ∨ (l.length : Int) ≤ i) : atI l i = (([], []), false) := by
  unfold atI
  by_cases h0 : 0 ≤ i
  · rw [if_pos h0, List.getElem?_eq_none (by omega)]
  · rw [if_neg h0]
theorem atI_yes {l : PL} {i : Int} {n : Nat} {x : List UInt8 × List UInt8} (e : i = n) (h : l[n]? = some x) : atI l i = (x, true) := by
  subst e
  unfold atI
  rw [if_pos (by omega), Int.toNat_natCast, h]
theorem rng_len (a b : List UInt8) (m : Int) (l : PL) : (rngF a b m l).length ≤ l.length := by
  unfold rngF
  rw [List.length_take]
  exact Nat.le_trans (Nat.min_le_right _ _) (List.length_filter_le _ _)
theorem At_u (l : PL) (t : T) (q : Option Addr) (i : Int) (w : World) {n : Nat} (hg : Gr t n) (hl : t.toL = l) (hn : n ≤ 1000) (ht : Tr Nn 0 w t (.pointer q)) (R : Ending → World → Prop)
    (hR : ∀ w' k2 v2, Below w.heap.size w w' → OwnB w.heap.size w' k2 (atI l i).1.1 → OwnB w.heap.size w' v2 (atI l i).1.2 → (∀ g, k2.ownBlock = some g → v2.ownBlock ≠ some g) → R (.returned (.tuple #[.agg #[k2, v2], .bool (atI l i).2])) w') :
    Calls Try.prog 21 #[.pointer q, .int .i64 i] w R := by
  have hm := hg.many
  have hml := T.many_toL t
  rw [hl] at hml
  refine At_any Nn 0 t i _ w (Nn.lt _) (Nat.zero_le _) ht (by omega) hg.len8 R (fun hno w' hB => ?_) (fun k e hk w' k2 v2 hB h1 h2 h3 => ?_)
  · have := hR w' (.slice none 0 0) (.slice none 0 0) hB
    rw [atI_no (by omega)] at this
    exact this (Own.nil _ _ _ _ _) (Own.nil _ _ _ _ _) (fun g h => by cases h)
  · have := hR w' k2 v2 hB
    rw [atI_yes e (by rw [← hl]; exact T.at_eq t k hk)] at this
    exact this h1 h2 h3
theorem Seek_v (l : PL) (t : T) (key : List UInt8) (q : Option Addr) (kv : Value) (klo khi : Nat) (w : World) {n : Nat} (hg : Gr t n) (hl : t.toL = l) (hn : n ≤ 1000) (ht : Tr Nn 0 w t (.pointer q)) (hk : Bytes klo khi w kv key) (hkh : khi ≤ w.heap.size) (r : Nat) (hr : r = (lowL key l).length) (R : Ending → World → Prop)
    (hR : ∀ w' k2 v2, Below w.heap.size w w' → OwnB w.heap.size w' k2 (atI l (r : Int)).1.1 → OwnB w.heap.size w' v2 (atI l (r : Int)).1.2 → (∀ g, k2.ownBlock = some g → v2.ownBlock ≠ some g) → R (.returned (.tuple #[.agg #[k2, v2], .bool (atI l (r : Int)).2])) w') :
    Calls Try.prog 17 #[.pointer q, kv] w R := by
  have hm := hg.many
  have hml := T.many_toL t
  have hrk := T.rank_eq key t hg.rises
  rw [hl] at hml hrk
  rw [← hrk] at hr
  subst hr
  refine Seek_any Nn 0 klo khi t key _ _ w (Nn.lt _) (Nat.zero_le _) ht hk hkh (by omega) hg.len8 R (fun hno w' hB => ?_) (fun k e hk w' k2 v2 hB h1 h2 h3 => ?_)
  · have := hR w' (.slice none 0 0) (.slice none 0 0) hB
    rw [atI_no (by omega)] at this
    exact this (Own.nil _ _ _ _ _) (Own.nil _ _ _ _ _) (fun g h => by cases h)
  · have := hR w' k2 v2 hB
    rw [atI_yes e (by rw [← hl]; exact T.at_eq t k hk)] at this
    exact this h1 h2 h3
theorem Back_v (l : PL) (t : T) (key : List UInt8) (q : Option Addr) (kv : Value) (klo khi : Nat) (w : World) {n : Nat} (hg : Gr t n) (hl : t.toL = l) (hn : n ≤ 1000) (ht : Tr Nn 0 w t (.pointer q)) (hk : Bytes klo khi w kv key) (hkh : khi ≤ w.heap.size) (r : Nat) (hr : r = (lowL key l).length) (R : Ending → World → Prop)
    (hR : ∀ w' k2 v2, Below w.heap.size w w' → OwnB w.heap.size w' k2 (atI l ((r : Int) - 1)).1.1 → OwnB w.heap.size w' v2 (atI l ((r : Int) - 1)).1.2 → (∀ g, k2.ownBlock = some g → v2.ownBlock ≠ some g) → R (.returned (.tuple #[.agg #[k2, v2], .bool (atI l ((r : Int) - 1)).2])) w') :
    Calls Try.prog 18 #[.pointer q, kv] w R := by
  have hm := hg.many
  have hml := T.many_toL t
  have hrk := T.rank_eq key t hg.rises
  rw [hl] at hml hrk
  rw [← hrk] at hr
  subst hr
  refine Back_any Nn 0 klo khi t key _ _ w (Nn.lt _) (Nat.zero_le _) ht hk hkh (by omega) hg.len8 R (fun hno w' hB => ?_) (fun k e hk w' k2 v2 hB h1 h2 h3 => ?_)
  · have := hR w' (.slice none 0 0) (.slice none 0 0) hB
    rw [atI_no (by omega)] at this
    exact this (Own.nil _ _ _ _ _) (Own.nil _ _ _ _ _) (fun g h => by cases h)
  · have := hR w' k2 v2 hB
    rw [atI_yes e (by rw [← hl]; exact T.at_eq t k hk)] at this
    exact this h1 h2 h3
theorem AtRef_u (lo hi : Nat) (l : PL) (sv : Value) (i : Int) (w : World) (h : Rs lo hi w sv l) (hhi : hi ≤ w.heap.size) (hl : l.length ≤ 100000) (R : Ending → World → Prop)
    (hR : ∀ w', Below w.heap.size w w' → R (.returned (.tuple #[.agg #[.string ⟨(atI l i).1.1.toArray⟩, .string ⟨(atI l i).1.2.toArray⟩], .bool (atI l i).2])) w') :
    Calls Try.prog 40 #[.agg #[sv], .int .i64 i] w R := by
  refine At_ref lo hi l sv i w h hhi hl R (fun hno w' hB => ?_) (fun n e hn w' hB => ?_)
  · have := hR w' hB
    rw [atI_no hno] at this
    exact this
  · have := hR w' hB
    rw [atI_yes e (List.getElem?_eq_getElem hn)] at this
    exact this

set_option maxRecDepth 100000 in
set_option maxHeartbeats 4000000 in
theorem one_any (lo : Nat) (k2 v2 : Value) (x : List UInt8 × List UInt8) (is : Bool) (w : World) (hk : OwnB lo w k2 x.1) (hv : OwnB lo w v2 x.2) (hkv : ∀ g, k2.ownBlock = some g → v2.ownBlock ≠ some g) (hlo : lo ≤ w.heap.size)
    (R : Ending → World → Prop) (hR : ∀ w', Only (fun q => k2.ownBlock = some q ∨ v2.ownBlock = some q) w w' → R (.returned (.bool true)) w') :
    Calls Try.prog 41 #[.agg #[k2, v2], .bool is, .agg #[.string ⟨x.1.toArray⟩, .string ⟨x.2.toArray⟩], .bool is] w R := by
  have HR := Lib.hid hR
  obtain ⟨p1, c1, rfl⟩ := Own.slice hk
  obtain ⟨p2, c2, rfl⟩ := Own.slice hv
  obtain ⟨W2, e2⟩ : ∃ W2, W2 = (w.alloc (.cells #[.slice p1 x.1.length c1, .slice p2 x.2.length c2] 43)).alloc (.cells #[.string ⟨x.1.toArray⟩, .string ⟨x.2.toArray⟩] 82) := ⟨_, rfl⟩
  have hB2 : Below w.heap.size w W2 := by rw [e2]; exact ((Below.refl _ _).alloc (Nat.le_refl _) _).alloc (by simp) _
  have hz2 : W2.heap.size = w.heap.size + 2 := by rw [e2]; simp
  have hc0 : CellsAt W2 w.heap.size 0 [.slice p1 x.1.length c1, .slice p2 x.2.length c2] := by
    rw [e2]
    exact ((Blk.new w [.slice p1 x.1.length c1, .slice p2 x.2.length c2] 43 rfl).alloc _).cells
  have hc1 : CellsAt W2 (w.heap.size + 1) 0 [.string ⟨x.1.toArray⟩, .string ⟨x.2.toArray⟩] := by
    rw [e2]
    exact (Blk.new _ [.string ⟨x.1.toArray⟩, .string ⟨x.2.toArray⟩] 82 (by simp)).cells
  obtain ⟨a0, a1⟩ := hc0.c2
  obtain ⟨b0, b1⟩ := hc1.c2
  have hbs := run_bsP p1 p2 x.1.length c1 x.2.length c2 W2
  obtain ⟨W4, e4⟩ : ∃ W4, W4 = (W2.alloc (.cells #[.slice p1 x.1.length c1, .slice p2 x.2.length c2] 43)).alloc (.cells #[.string ⟨x.1.toArray⟩, .string ⟨x.2.toArray⟩] 82) := ⟨_, rfl⟩
  have hB4 : Below W2.heap.size W2 W4 := by rw [e4]; exact ((Below.refl _ _).alloc (Nat.le_refl _) _).alloc (by simp) _
  have hz4 : W4.heap.size = w.heap.size + 4 := by rw [e4]; simp [hz2]
  have hB04 : Below w.heap.size w W4 := hB2.trans (hB4.mono (by omega))
  have k4 := Own.kept hk hB04
  have v4 := Own.kept hv hB04
  have own4 : OwnP (w.heap.size + 2) W4 (.slice (some ⟨W2.heap.size, 0, none⟩) 1 1) [(.slice p1 x.1.length c1, .slice p2 x.2.length c2)] := by
    have h := World.ownsRow_lit (base := w.heap.size + 2) (e := 43) (size := 2) W2 #[.slice p1 x.1.length c1, .slice p2 x.2.length c2] 1 (by omega) (by simp [maxLen]) rfl
    have h' : OwnP (w.heap.size + 2) (W2.alloc (.cells #[.slice p1 x.1.length c1, .slice p2 x.2.length c2] 43)) (.slice (some ⟨W2.heap.size, 0, none⟩) 1 1) [(.slice p1 x.1.length c1, .slice p2 x.2.length c2)] := h
    rw [e4]
    exact Own.kept h' (alloc_below _ _)
  have ownr : OwnR (w.heap.size + 3) W4 (.slice (some ⟨W2.heap.size + 1, 0, none⟩) 1 1) [x] := by
    rw [e4]
    have h := World.ownsRow_lit (base := w.heap.size + 3) (e := 82) (size := 2) (W2.alloc (.cells #[.slice p1 x.1.length c1, .slice p2 x.2.length c2] 43)) #[.string ⟨x.1.toArray⟩, .string ⟨x.2.toArray⟩] 1 (by simp; omega) (by simp [maxLen]) rfl
    have hs : (W2.alloc (.cells #[.slice p1 x.1.length c1, .slice p2 x.2.length c2] 43)).heap.size = W2.heap.size + 1 := by simp
    rw [hs] at h
    exact h
  have hlk := hk.lt
  have hlv := hv.lt
  have hmem : ∀ q, q ∈ blks [((.slice p1 x.1.length c1 : Value), (.slice p2 x.2.length c2 : Value))] → Value.ownBlock (.slice p1 x.1.length c1) = some q ∨ Value.ownBlock (.slice p2 x.2.length c2) = some q := fun q h => by
    simp only [blks, List.flatMap_cons, List.flatMap_nil, List.append_nil] at h
    exact (List.mem_append.1 h).imp (by simp) (by simp)
  have hmlt : ∀ q, q ∈ blks [((.slice p1 x.1.length c1 : Value), (.slice p2 x.2.length c2 : Value))] → q < w.heap.size := fun q h => (hmem q h).elim (fun e => (hlk q e).2) (fun e => (hlv q e).2)
  have hP : Pairs lo W4 (.slice (some ⟨W2.heap.size, 0, none⟩) 1 1) [(.slice p1 x.1.length c1, .slice p2 x.2.length c2)] [x] := {
    own := ⟨own4.1, own4.2.imp id fun ⟨g, cp, cur, e, hg, hh⟩ => ⟨g, cp, cur, e, by omega, hh⟩⟩
    len := rfl
    kv := fun i h h2 => by
      obtain rfl : i = 0 := by simp at h; omega
      exact ⟨k4, v4⟩
    apart := by
      simp only [blks, List.flatMap_cons, List.flatMap_nil, List.append_nil]
      refine List.nodup_append.2 ⟨?_, ?_, fun q hq q2 hq2 e => ?_⟩
      · cases Value.ownBlock (.slice p1 x.1.length c1) <;> simp
      · cases Value.ownBlock (.slice p2 x.2.length c2) <;> simp
      · subst e
        exact hkv q (by simpa using hq) (by simpa using hq2)
    hd := fun g hg hm => by
      have h1 := hmlt g hm
      have h2 : W2.heap.size = g := by simpa [Value.ownBlock] using hg
      omega }
  have hr0 : Rs (w.heap.size + 3) W4.heap.size W4 (.slice (some ⟨W2.heap.size + 1, 0, none⟩) 1 1) [x] := OwnR.rs ownr
  have hr : ∀ w', Only (· ∈ blks [((.slice p1 x.1.length c1 : Value), (.slice p2 x.2.length c2 : Value))]) W4 w' → Rs (w.heap.size + 3) W4.heap.size w' (.slice (some ⟨W2.heap.size + 1, 0, none⟩) 1 1) [x] := fun w' hO =>
    Sl.agree hr0 (flat_loc _) (hO.agree (Nat.le_refl _) (fun k hk => .inl (by have := hmlt k hk; omega)))
  have HP := Lib.hid hP
  have Hr := Lib.hid hr
  have Hfin : Hid (∀ w', Only (· ∈ blks [((.slice p1 x.1.length c1 : Value), (.slice p2 x.2.length c2 : Value))]) W4 w' → Only (fun q => Value.ownBlock (.slice p1 x.1.length c1) = some q ∨ Value.ownBlock (.slice p2 x.2.length c2) = some q) w w') :=
    Lib.hid (fun w' hO => (Below.only hB04).trans (hO.mono (fun k _ hk => hmem k hk)))
  have E2 := Lib.hid e2
  have E4 := Lib.hid e4
  clear hR hk hv hkv hB2 hc0 hc1 hB4 hB04 k4 v4 own4 ownr hlk hlv hmem hmlt hP hr0 hr e4 hz4
  go_enter Try.func41, Try.ntmps41
  go_upto_region 1 with fail
  rw [← e2]
  have Hz2 := Lib.hid hz2
  have hlt2 : w.heap.size + 1 < W2.heap.size := by omega
  have hlt3 : w.heap.size < W2.heap.size := by omega
  clear e2 hz2
  go_wp2_with fail
  rw [← E4.out]
  refine same_any lo (w.heap.size + 3) W4.heap.size _ [x] _ _ W4 HP.out Hr.out (by simp) _ (fun w' hO => ?_)
  have hr := HR.out w' (Hfin.out w' hO)
  clear hO
  go_wp2_with fail
  first | exact hr | exact fin hr rfl

set_option maxRecDepth 100000 in
set_option maxHeartbeats 16000000 in
theorem tells_some (ulo uhi klo khi tlo thi : Nat) (t : T) (l : PL) (key to : List UInt8) (kind frm m : Int) (q : Option Addr) (uv kv vv tv : Value) (w : World) {g : Nat} (hgr : Gr t g) (hl : t.toL = l) (hn : g ≤ 1000) (ht : Tr Nn 0 w t (.pointer q)) (hu : Rs ulo uhi w uv l) (huh : uhi ≤ w.heap.size)
    (hk : Bytes klo khi w kv key) (hkh : khi ≤ w.heap.size) (hto : Bytes tlo thi w tv to) (hth : thi ≤ w.heap.size) (hvv : ∃ a n c, vv = .slice a n c)
    (dv : List UInt8) (hg : getL key l = some dv) (R : Ending → World → Prop) (hR : ∀ w', Below w.heap.size w w' → R (.returned (.bool true)) w') : Calls Try.prog 25 #[.pointer q, .agg #[uv], .agg #[.int .i64 kind, .int .u16 frm, kv, vv, tv, .int .i64 m]] w R := by
  obtain ⟨au, cu, rfl, -, -, -, -⟩ := Sl.form hu
  obtain ⟨ak, ck, rfl, -, -, -, -⟩ := Sl.form hk
  obtain ⟨at_, ct, rfl, -, -, -, -⟩ := Sl.form hto
  obtain ⟨av, nv, cv, rfl⟩ := hvv
  have HR := Lib.hid hR
  have hb0 : Below w.heap.size w ((w.alloc (.cells #[.slice au l.length cu] 56)).alloc (.cells #[.int .i64 kind, .int .u16 frm, .slice ak key.length ck, .slice av nv cv, .slice at_ to.length ct, .int .i64 m] 32)) := ((Below.refl _ _).alloc (Nat.le_refl _) _).alloc (by simp) _
  have hc0 := (Blk.new w [.slice au l.length cu] 56 rfl).alloc (.cells #[.int .i64 kind, .int .u16 frm, .slice ak key.length ck, .slice av nv cv, .slice at_ to.length ct, .int .i64 m] 32)
  have hc1 := Blk.new (n := w.heap.size + 1) (w.alloc (.cells #[.slice au l.length cu] 56)) [.int .i64 kind, .int .u16 frm, .slice ak key.length ck, .slice av nv cv, .slice at_ to.length ct, .int .i64 m] 32 (by simp)
  have x0 := hc0.cells.c1
  obtain ⟨-, -, x2, -, x4, x5⟩ := hc1.cells.c6
  have HB0 := Lib.hid hb0
  have hlt0 := hc0.lt
  have hlt1 := hc1.lt
  have HT := Lib.hid (Tr.kp (ht.step (Nn.lt _) (Nat.zero_le _) hb0) (Nat.zero_le _))
  have hu0 := Rs.low hu hb0 huh
  have hk0 := Sl.below hk (flat_loc _) hb0 hkh
  have hto0 := Sl.below hto (flat_loc _) hb0 hth
  have Hm6 : Hid (t.many ≤ 1000000) := Lib.hid (by have := hgr.many; omega)
  have hml := T.many_toL t
  rw [hl] at hml
  have Hl4 : Hid (l.length ≤ 100000) := Lib.hid (by have := hgr.many; omega)
  have Hl3 : Hid (l.length ≤ 10000) := Lib.hid (by have := hgr.many; omega)
  have hl5 : l.length ≤ 100000 := Hl4.out
  have Hri : Hid (Rises l) := Lib.hid (hl ▸ hgr.rises)
  have hrk := T.rank_eq key t hgr.rises
  rw [hl] at hrk
  have Hml : Hid (t.many = l.length) := Lib.hid hml.symm
  have hcv := str hk0
  have Hl := Lib.hid hl
  have Hg := Lib.hid hgr
  have Hn3 := Lib.hid hn
  clear hR hb0 ht hml hu hk hto hl hgr
  go_enter Try.func25, Try.ntmps25
  go_upto_region 1 with fail
  generalize hw0 : (w.alloc (.cells #[.slice au l.length cu] 56)).alloc (.cells #[.int .i64 kind, .int .u16 frm, .slice ak key.length ck, .slice av nv cv, .slice at_ to.length ct, .int .i64 m] 32) = w0 at *
  clear hw0 hc0 hc1
  have HC0 := Lib.hid (cell_kp x0 hlt0)
  have HC2 := Lib.hid (cell_kp x2 hlt1)
  have HC4 := Lib.hid (cell_kp x4 hlt1)
  have HC5 := Lib.hid (cell_kp x5 hlt1)
  have HB := Lib.hid (Below.refl w0.heap.size w0)
  have Huh := Lib.hid (Nat.le_trans huh HB0.out.size)
  have Hkh := Lib.hid (Nat.le_trans hkh HB0.out.size)
  have Hth := Lib.hid (Nat.le_trans hth HB0.out.size)
  have HU : Hid (Kp (fun w => Rs ulo uhi w (.slice au l.length cu) l) w0) := Lib.hid (fun w' hB => Rs.low hu0 hB Huh.out)
  have HK := Lib.hid (Bytes.kp hk0 Hkh.out)
  have HTo := Lib.hid (Bytes.kp hto0 Hth.out)
  clear x4 x5 huh hkh hth hlt0 hlt1 hu0 hk0 hto0
  go_wp2_with fail
  refine Rank_ref ulo uhi l _ key w0 (HU.out _ HB.out) Huh.out Hl4.out _ (fun w1 hB1 => ?_)
  obtain ⟨n, en⟩ : ∃ n, n = (lowL key l).length := ⟨_, rfl⟩
  have En := Lib.hid en
  have hn0 : n ≤ l.length := by rw [en]; exact List.length_filter_le _ _
  rw [← en] at hrk ⊢
  have Hrk : Hid (t.rank key = n) := Lib.hid hrk
  have n0 : (0 : Int) ≤ (n : Int) := by omega
  have n9 : (n : Int) ≤ 100000 := by omega
  clear en hrk x0 x2 hcv
  replace HB := Lib.hid (HB.out.trans (hB1.mono HB.out.size))
  have yc0 := HC0.out _ HB.out
  clear hB1
  go_wp2_with fail
  refine Has_ref ulo uhi l _ key w1 (HU.out _ HB.out) (Nat.le_trans Huh.out HB.out.size) Hl4.out Hri.out _ (fun w2 hB2 => ?_)
  replace HB := Lib.hid (HB.out.trans (hB2.mono HB.out.size))
  have yc2 := HC2.out _ HB.out
  clear hB2 yc0
  go_wp2_with fail
  refine Get_u 0 klo khi g t key _ _ w2 (Nat.zero_le _) (HT.out _ HB.out) (HK.out _ HB.out) Hg.out dv true (by rw [Hl.out, hg]; rfl) (by rw [Hl.out, hg]; rfl) _ (fun w3 a3 c3 hB3 hx3 => ?_)
  replace HB := Lib.hid (HB.out.trans (hB3.mono HB.out.size))
  clear hB3 yc2
  have hal := at_low key l Hri.out dv hg
  rw [← En.out] at hal
  have hnl : n < l.length := (List.getElem?_eq_some_iff.1 hal).1
  have hln : l[n] = (key, dv) := (List.getElem?_eq_some_iff.1 hal).2
  have nl : (n : Int) < (l.length : Int) := by omega
  clear hg
  have HU3 := Lib.hid (HU.out w3 HB.out)
  have HT3 := Lib.hid (HT.out w3 HB.out)
  have HK3 := Lib.hid (HK.out w3 HB.out)
  have hkh3 : khi ≤ w3.heap.size := Nat.le_trans Hkh.out HB.out.size
  have yc0 := HC0.out _ HB.out
  have yc2 := HC2.out _ HB.out
  obtain ⟨b, off, eau, k1, k2, z0, z1⟩ := HU3.out.at n hnl
  rw [hln] at z1
  subst eau
  have cv3 : (convert 30 9 (.slice a3 dv.length c3)).run Try.prog w3.drew = .ok (.string ⟨dv.toArray⟩) w3.drew := str (Sl.below hx3 (flat_loc _) (Below.drew (Below.refl _ _)) (Nat.le_refl _))
  clear hal hln z0
  clear hx3
  go_wp2_with fail
  refine wp_region_held_drew (S := fun w' => w' = w3.drew) (by kernel_rfl) rfl (fun hHeld => ?_)
  refine wpAnyH_take (i := 0) (v := .pointer q) rfl (by kernel_rfl) (by kernel_rfl) (by kernel_rfl) (fun _ _ _ h => h) (Or.inl ⟨by rfl, ?_⟩) hHeld ?_
  · intro w' hSw; subst hSw; go_simp
  try simp only [Act.put, List.getElem_toArray, List.getElem_cons_succ, List.getElem_cons_zero, List.setIfInBounds_toArray, List.set_cons_zero, List.set_cons_succ]
  refine wpAnyH_take (i := 2) (v := .pointer (some ⟨w.heap.size, 0, none⟩)) rfl (by kernel_rfl) (by kernel_rfl) (by kernel_rfl) (fun _ _ _ h => h) (Or.inl ⟨by rfl, ?_⟩) hHeld ?_
  · intro w' hSw; subst hSw; go_simp
  try simp only [Act.put, List.getElem_toArray, List.getElem_cons_succ, List.getElem_cons_zero, List.setIfInBounds_toArray, List.set_cons_zero, List.set_cons_succ]
  refine wpAnyH_take (i := 3) (v := .slice (some ⟨b, off, none⟩) l.length cu) rfl (by kernel_rfl) (by kernel_rfl) (by kernel_rfl) (fun _ _ _ h => h) (Or.inl ⟨by rfl, ?_⟩) hHeld ?_
  · intro w' hSw; subst hSw; go_simp
  try simp only [Act.put, List.getElem_toArray, List.getElem_cons_succ, List.getElem_cons_zero, List.setIfInBounds_toArray, List.set_cons_zero, List.set_cons_succ]
  refine wpAnyH_take (i := 4) (v := .int .i64 ((l.length : Int))) rfl (by kernel_rfl) (by kernel_rfl) (by kernel_rfl) (fun _ _ _ h => h) (Or.inl ⟨by rfl, ?_⟩) hHeld ?_
  · intro w' hSw; subst hSw; go_simp
  try simp only [Act.put, List.getElem_toArray, List.getElem_cons_succ, List.getElem_cons_zero, List.setIfInBounds_toArray, List.set_cons_zero, List.set_cons_succ]
  refine wpAnyH_ready (rs := [1]) (by kernel_rfl) (by simp) ?_
  refine allCall (f := 16) (args := #[.pointer q]) rfl (by kernel_rfl) (by kernel_rfl) ?_ AllReadyH.nil
  refine Len_any Nn 0 t _ w3.drew (Tr.step HT3.out (Nn.lt _) (Nat.zero_le _) (Below.drew (Below.refl _ _))) _ ?_
  rw [Hml.out]
  refine ⟨_, rfl, rfl, ?_⟩
  try simp only [Act.put, List.getElem_toArray, List.getElem_cons_succ, List.getElem_cons_zero, List.setIfInBounds_toArray, List.set_cons_zero, List.set_cons_succ]
  refine wpAnyH_take (i := 5) (v := .bool false) rfl (by kernel_rfl) (by kernel_rfl) (by kernel_rfl) (fun _ _ _ h => h) (Or.inl ⟨by rfl, ?_⟩) hHeld ?_
  · intro w' hSw; subst hSw; go_simp
  try simp only [Act.put, List.getElem_toArray, List.getElem_cons_succ, List.getElem_cons_zero, List.setIfInBounds_toArray, List.set_cons_zero, List.set_cons_succ]
  refine wpAnyH_take (i := 6) (v := .bool false) rfl (by kernel_rfl) (by kernel_rfl) (by kernel_rfl) (fun _ _ _ h => h) (Or.inl ⟨by rfl, ?_⟩) hHeld ?_
  · intro w' hSw; subst hSw; go_simp
  try simp only [Act.put, List.getElem_toArray, List.getElem_cons_succ, List.getElem_cons_zero, List.setIfInBounds_toArray, List.set_cons_zero, List.set_cons_succ]
  refine wpAnyH_take (i := 7) (v := .pointer q) rfl (by kernel_rfl) (by kernel_rfl) (by kernel_rfl) (fun _ _ _ h => h) (Or.inl ⟨by rfl, ?_⟩) hHeld ?_
  · intro w' hSw; subst hSw; go_simp
  try simp only [Act.put, List.getElem_toArray, List.getElem_cons_succ, List.getElem_cons_zero, List.setIfInBounds_toArray, List.set_cons_zero, List.set_cons_succ]
  refine wpAnyH_take (i := 8) (v := .pointer (some ⟨(w.heap.size + 1), 2, none⟩)) rfl (by kernel_rfl) (by kernel_rfl) (by kernel_rfl) (fun _ _ _ h => h) (Or.inl ⟨by rfl, ?_⟩) hHeld ?_
  · intro w' hSw; subst hSw; go_simp
  try simp only [Act.put, List.getElem_toArray, List.getElem_cons_succ, List.getElem_cons_zero, List.setIfInBounds_toArray, List.set_cons_zero, List.set_cons_succ]
  refine wpAnyH_take (i := 9) (v := .slice ak key.length ck) rfl (by kernel_rfl) (by kernel_rfl) (by kernel_rfl) (fun _ _ _ h => h) (Or.inl ⟨by rfl, ?_⟩) hHeld ?_
  · intro w' hSw; subst hSw; go_simp
  try simp only [Act.put, List.getElem_toArray, List.getElem_cons_succ, List.getElem_cons_zero, List.setIfInBounds_toArray, List.set_cons_zero, List.set_cons_succ]
  refine wpAnyH_take (i := 11) (v := .int .i64 ((n : Int))) rfl (by kernel_rfl) (by kernel_rfl) (by kernel_rfl) (fun _ _ _ h => h) (Or.inl ⟨by rfl, ?_⟩) hHeld ?_
  · intro w' hSw; subst hSw; go_simp
  try simp only [Act.put, List.getElem_toArray, List.getElem_cons_succ, List.getElem_cons_zero, List.setIfInBounds_toArray, List.set_cons_zero, List.set_cons_succ]
  refine wpAnyH_ready (rs := [10]) (by kernel_rfl) (by simp) ?_
  refine allCall (f := 15) (args := #[.pointer q, .slice ak key.length ck]) rfl (by kernel_rfl) (by kernel_rfl) ?_ AllReadyH.nil
  refine Rank_any Nn 0 _ _ t key _ _ w3.drew (Tr.step HT3.out (Nn.lt _) (Nat.zero_le _) (Below.drew (Below.refl _ _))) (Sl.below HK3.out (flat_loc _) (Below.drew (Below.refl _ _)) hkh3) Hm6.out _ ?_
  rw [Hrk.out]
  refine ⟨_, rfl, rfl, ?_⟩
  try simp only [Act.put, List.getElem_toArray, List.getElem_cons_succ, List.getElem_cons_zero, List.setIfInBounds_toArray, List.set_cons_zero, List.set_cons_succ]
  refine wpAnyH_take (i := 12) (v := .bool false) rfl (by kernel_rfl) (by kernel_rfl) (by kernel_rfl) (fun _ _ _ h => h) (Or.inl ⟨by rfl, ?_⟩) hHeld ?_
  · intro w' hSw; subst hSw; go_simp
  try simp only [Act.put, List.getElem_toArray, List.getElem_cons_succ, List.getElem_cons_zero, List.setIfInBounds_toArray, List.set_cons_zero, List.set_cons_succ]
  refine wpAnyH_take (i := 13) (v := .bool false) rfl (by kernel_rfl) (by kernel_rfl) (by kernel_rfl) (fun _ _ _ h => h) (Or.inl ⟨by rfl, ?_⟩) hHeld ?_
  · intro w' hSw; subst hSw; go_simp
  try simp only [Act.put, List.getElem_toArray, List.getElem_cons_succ, List.getElem_cons_zero, List.setIfInBounds_toArray, List.set_cons_zero, List.set_cons_succ]
  refine wpAnyH_take (i := 14) (v := .bool false) rfl (by kernel_rfl) (by kernel_rfl) (by kernel_rfl) (fun _ _ _ h => h) (Or.inl ⟨by rfl, ?_⟩) hHeld ?_
  · intro w' hSw; subst hSw; go_simp
  try simp only [Act.put, List.getElem_toArray, List.getElem_cons_succ, List.getElem_cons_zero, List.setIfInBounds_toArray, List.set_cons_zero, List.set_cons_succ]
  refine wpAnyH_take (i := 15) (v := .bool true) rfl (by kernel_rfl) (by kernel_rfl) (by kernel_rfl) (fun _ _ _ h => h) (Or.inl ⟨by rfl, ?_⟩) hHeld ?_
  · intro w' hSw; subst hSw; go_simp
  try simp only [Act.put, List.getElem_toArray, List.getElem_cons_succ, List.getElem_cons_zero, List.setIfInBounds_toArray, List.set_cons_zero, List.set_cons_succ]
  refine wpAnyH_take (i := 16) (v := .bool true) rfl (by kernel_rfl) (by kernel_rfl) (by kernel_rfl) (fun _ _ _ h => h) (Or.inl ⟨by rfl, ?_⟩) hHeld ?_
  · intro w' hSw; subst hSw; go_simp
  try simp only [Act.put, List.getElem_toArray, List.getElem_cons_succ, List.getElem_cons_zero, List.setIfInBounds_toArray, List.set_cons_zero, List.set_cons_succ]
  refine wpAnyH_take (i := 17) (v := .bool false) rfl (by kernel_rfl) (by kernel_rfl) (by kernel_rfl) (fun _ _ _ h => h) (Or.inl ⟨by rfl, ?_⟩) hHeld ?_
  · intro w' hSw; subst hSw; go_simp
  try simp only [Act.put, List.getElem_toArray, List.getElem_cons_succ, List.getElem_cons_zero, List.setIfInBounds_toArray, List.set_cons_zero, List.set_cons_succ]
  refine wpAnyH_take (i := 18) (v := .bool false) rfl (by kernel_rfl) (by kernel_rfl) (by kernel_rfl) (fun _ _ _ h => h) (Or.inl ⟨by rfl, ?_⟩) hHeld ?_
  · intro w' hSw; subst hSw; go_simp
  try simp only [Act.put, List.getElem_toArray, List.getElem_cons_succ, List.getElem_cons_zero, List.setIfInBounds_toArray, List.set_cons_zero, List.set_cons_succ]
  refine wpAnyH_take (i := 19) (v := .bool false) rfl (by kernel_rfl) (by kernel_rfl) (by kernel_rfl) (fun _ _ _ h => h) (Or.inl ⟨by rfl, ?_⟩) hHeld ?_
  · intro w' hSw; subst hSw; go_simp
  try simp only [Act.put, List.getElem_toArray, List.getElem_cons_succ, List.getElem_cons_zero, List.setIfInBounds_toArray, List.set_cons_zero, List.set_cons_succ]
  refine wpAnyH_take (i := 20) (v := .bool true) rfl (by kernel_rfl) (by kernel_rfl) (by kernel_rfl) (fun _ _ _ h => h) (Or.inl ⟨by rfl, ?_⟩) hHeld ?_
  · intro w' hSw; subst hSw; go_simp
  try simp only [Act.put, List.getElem_toArray, List.getElem_cons_succ, List.getElem_cons_zero, List.setIfInBounds_toArray, List.set_cons_zero, List.set_cons_succ]
  refine wpAnyH_take (i := 21) (v := .bool true) rfl (by kernel_rfl) (by kernel_rfl) (by kernel_rfl) (fun _ _ _ h => h) (Or.inl ⟨by rfl, ?_⟩) hHeld ?_
  · intro w' hSw; subst hSw; go_simp
  try simp only [Act.put, List.getElem_toArray, List.getElem_cons_succ, List.getElem_cons_zero, List.setIfInBounds_toArray, List.set_cons_zero, List.set_cons_succ]
  refine wpAnyH_take (i := 22) (v := .slice a3 dv.length c3) rfl (by kernel_rfl) (by kernel_rfl) (by kernel_rfl) (fun _ _ _ h => h) (Or.inl ⟨by rfl, ?_⟩) hHeld ?_
  · intro w' hSw; subst hSw; go_simp
  try simp only [Act.put, List.getElem_toArray, List.getElem_cons_succ, List.getElem_cons_zero, List.setIfInBounds_toArray, List.set_cons_zero, List.set_cons_succ]
  refine wpAnyH_take (i := 23) (v := .string ⟨dv.toArray⟩) rfl (by kernel_rfl) (by kernel_rfl) (by kernel_rfl) (fun _ _ _ h => h) (Or.inl ⟨by rfl, ?_⟩) hHeld ?_
  · intro w' hSw; subst hSw; go_simp
  try simp only [Act.put, List.getElem_toArray, List.getElem_cons_succ, List.getElem_cons_zero, List.setIfInBounds_toArray, List.set_cons_zero, List.set_cons_succ]
  refine wpAnyH_take (i := 24) (v := .pointer (some ⟨w.heap.size, 0, none⟩)) rfl (by kernel_rfl) (by kernel_rfl) (by kernel_rfl) (fun _ _ _ h => h) (Or.inl ⟨by rfl, ?_⟩) hHeld ?_
  · intro w' hSw; subst hSw; go_simp
  try simp only [Act.put, List.getElem_toArray, List.getElem_cons_succ, List.getElem_cons_zero, List.setIfInBounds_toArray, List.set_cons_zero, List.set_cons_succ]
  refine wpAnyH_take (i := 25) (v := .slice (some ⟨b, off, none⟩) l.length cu) rfl (by kernel_rfl) (by kernel_rfl) (by kernel_rfl) (fun _ _ _ h => h) (Or.inl ⟨by rfl, ?_⟩) hHeld ?_
  · intro w' hSw; subst hSw; go_simp
  try simp only [Act.put, List.getElem_toArray, List.getElem_cons_succ, List.getElem_cons_zero, List.setIfInBounds_toArray, List.set_cons_zero, List.set_cons_succ]
  refine wpAnyH_take (i := 26) (v := .int .i64 ((n : Int))) rfl (by kernel_rfl) (by kernel_rfl) (by kernel_rfl) (fun _ _ _ h => h) (Or.inl ⟨by rfl, ?_⟩) hHeld ?_
  · intro w' hSw; subst hSw; go_simp
  try simp only [Act.put, List.getElem_toArray, List.getElem_cons_succ, List.getElem_cons_zero, List.setIfInBounds_toArray, List.set_cons_zero, List.set_cons_succ]
  refine wpAnyH_take (i := 27) (v := .pointer (some ⟨b, off + n * 2, none⟩)) rfl (by kernel_rfl) (by kernel_rfl) (by kernel_rfl) (fun _ _ _ h => h) (Or.inl ⟨by rfl, ?_⟩) hHeld ?_
  · intro w' hSw; subst hSw; go_simp
  try simp only [Act.put, List.getElem_toArray, List.getElem_cons_succ, List.getElem_cons_zero, List.setIfInBounds_toArray, List.set_cons_zero, List.set_cons_succ]
  refine wpAnyH_take (i := 28) (v := .pointer (some ⟨b, off + n * 2 + 1, none⟩)) rfl (by kernel_rfl) (by kernel_rfl) (by kernel_rfl) (fun _ _ _ h => h) (Or.inl ⟨by rfl, ?_⟩) hHeld ?_
  · intro w' hSw; subst hSw; go_simp
  try simp only [Act.put, List.getElem_toArray, List.getElem_cons_succ, List.getElem_cons_zero, List.setIfInBounds_toArray, List.set_cons_zero, List.set_cons_succ]
  refine wpAnyH_take (i := 29) (v := .string ⟨dv.toArray⟩) rfl (by kernel_rfl) (by kernel_rfl) (by kernel_rfl) (fun _ _ _ h => h) (Or.inl ⟨by rfl, ?_⟩) hHeld ?_
  · intro w' hSw; subst hSw; go_simp
  try simp only [Act.put, List.getElem_toArray, List.getElem_cons_succ, List.getElem_cons_zero, List.setIfInBounds_toArray, List.set_cons_zero, List.set_cons_succ]
  refine wpAnyH_take (i := 30) (v := .bool false) rfl (by kernel_rfl) (by kernel_rfl) (by kernel_rfl) (fun _ _ _ h => h) (Or.inl ⟨by rfl, ?_⟩) hHeld ?_
  · intro w' hSw; subst hSw; go_simp
  try simp only [Act.put, List.getElem_toArray, List.getElem_cons_succ, List.getElem_cons_zero, List.setIfInBounds_toArray, List.set_cons_zero, List.set_cons_succ]
  refine wpAnyH_take (i := 31) (v := .bool false) rfl (by kernel_rfl) (by kernel_rfl) (by kernel_rfl) (fun _ _ _ h => h) (Or.inl ⟨by rfl, ?_⟩) hHeld ?_
  · intro w' hSw; subst hSw; go_simp
  try simp only [Act.put, List.getElem_toArray, List.getElem_cons_succ, List.getElem_cons_zero, List.setIfInBounds_toArray, List.set_cons_zero, List.set_cons_succ]
  refine wpAnyH_take (i := 32) (v := .bool false) rfl (by kernel_rfl) (by kernel_rfl) (by kernel_rfl) (fun _ _ _ h => h) (Or.inl ⟨by rfl, ?_⟩) hHeld ?_
  · intro w' hSw; subst hSw; go_simp
  try simp only [Act.put, List.getElem_toArray, List.getElem_cons_succ, List.getElem_cons_zero, List.setIfInBounds_toArray, List.set_cons_zero, List.set_cons_succ]
  refine wpAnyH_take (i := 33) (v := .bool false) rfl (by kernel_rfl) (by kernel_rfl) (by kernel_rfl) (fun _ _ _ h => h) (Or.inl ⟨by rfl, ?_⟩) hHeld ?_
  · intro w' hSw; subst hSw; go_simp
  try simp only [Act.put, List.getElem_toArray, List.getElem_cons_succ, List.getElem_cons_zero, List.setIfInBounds_toArray, List.set_cons_zero, List.set_cons_succ]
  refine wpAnyH_take (i := 34) (v := .bool true) rfl (by kernel_rfl) (by kernel_rfl) (by kernel_rfl) (fun _ _ _ h => h) (Or.inl ⟨by rfl, ?_⟩) hHeld ?_
  · intro w' hSw; subst hSw; go_simp
  try simp only [Act.put, List.getElem_toArray, List.getElem_cons_succ, List.getElem_cons_zero, List.setIfInBounds_toArray, List.set_cons_zero, List.set_cons_succ]
  refine wpAnyH_take (i := 35) (v := .bool false) rfl (by kernel_rfl) (by kernel_rfl) (by kernel_rfl) (fun _ _ _ h => h) (Or.inl ⟨by rfl, ?_⟩) hHeld ?_
  · intro w' hSw; subst hSw; go_simp
  try simp only [Act.put, List.getElem_toArray, List.getElem_cons_succ, List.getElem_cons_zero, List.setIfInBounds_toArray, List.set_cons_zero, List.set_cons_succ]
  refine wpAnyH_take (i := 36) (v := .bool false) rfl (by kernel_rfl) (by kernel_rfl) (by kernel_rfl) (fun _ _ _ h => h) (Or.inl ⟨by rfl, ?_⟩) hHeld ?_
  · intro w' hSw; subst hSw; go_simp
  try simp only [Act.put, List.getElem_toArray, List.getElem_cons_succ, List.getElem_cons_zero, List.setIfInBounds_toArray, List.set_cons_zero, List.set_cons_succ]
  refine wpAnyH_take (i := 37) (v := undef) rfl (by kernel_rfl) (by kernel_rfl) (by kernel_rfl) (fun _ _ _ h => h) (Or.inr ⟨by kernel_rfl, rfl⟩) hHeld ?_
  try simp only [Act.put, List.getElem_toArray, List.getElem_cons_succ, List.getElem_cons_zero, List.setIfInBounds_toArray, List.set_cons_zero, List.set_cons_succ]
  refine wpAnyH_take (i := 38) (v := undef) rfl (by kernel_rfl) (by kernel_rfl) (by kernel_rfl) (fun _ _ _ h => h) (Or.inr ⟨by kernel_rfl, rfl⟩) hHeld ?_
  try simp only [Act.put, List.getElem_toArray, List.getElem_cons_succ, List.getElem_cons_zero, List.setIfInBounds_toArray, List.set_cons_zero, List.set_cons_succ]
  refine wpAnyH_take (i := 39) (v := undef) rfl (by kernel_rfl) (by kernel_rfl) (by kernel_rfl) (fun _ _ _ h => h) (Or.inr ⟨by kernel_rfl, rfl⟩) hHeld ?_
  try simp only [Act.put, List.getElem_toArray, List.getElem_cons_succ, List.getElem_cons_zero, List.setIfInBounds_toArray, List.set_cons_zero, List.set_cons_succ]
  refine wpAnyH_take (i := 40) (v := .bool false) rfl (by kernel_rfl) (by kernel_rfl) (by kernel_rfl) (fun _ _ _ h => h) (Or.inl ⟨by rfl, ?_⟩) hHeld ?_
  · intro w' hSw; subst hSw; go_simp
  try simp only [Act.put, List.getElem_toArray, List.getElem_cons_succ, List.getElem_cons_zero, List.setIfInBounds_toArray, List.set_cons_zero, List.set_cons_succ]
  refine wpAnyH_take (i := 41) (v := .bool false) rfl (by kernel_rfl) (by kernel_rfl) (by kernel_rfl) (fun _ _ _ h => h) (Or.inl ⟨by rfl, ?_⟩) hHeld ?_
  · intro w' hSw; subst hSw; go_simp
  try simp only [Act.put, List.getElem_toArray, List.getElem_cons_succ, List.getElem_cons_zero, List.setIfInBounds_toArray, List.set_cons_zero, List.set_cons_succ]
  refine wpAnyH_done (by kernel_rfl) ?_ _
  clear hHeld
  clear yc0 yc2
  clear HU3 HT3 HK3 hkh3
  clear z1 cv3
  have hdr : Below w3.heap.size w3 w3.drew := Below.drew (Below.refl _ _)
  replace HB := Lib.hid (HB.out.trans (hdr.mono HB.out.size))
  generalize w3.drew = wd at *
  clear hdr
  have Hwd := Lib.hid HB.out.size
  have yc2 := HC2.out _ HB.out
  go_wp2_with fail
  refine Seek_v l t key q _ klo khi wd Hg.out Hl.out Hn3.out (HT.out _ HB.out) (HK.out _ HB.out) (Nat.le_trans Hkh.out HB.out.size) n En.out _ (fun wa0 x1 x2 hB o1 o2 ap => ?_)
  clear yc2
  obtain ⟨a1, s1, rfl⟩ := Own.slice o1
  obtain ⟨a2, s2, rfl⟩ := Own.slice o2
  have hsz := hB.size
  replace HB := Lib.hid (HB.out.trans (hB.mono HB.out.size))
  have H0a := Lib.hid (show w0.heap.size ≤ wa0.heap.size from HB.out.size)
  have hal := alloc_below wa0 (.cells #[(.slice a1 (atI l (n : Int)).1.1.length s1), (.slice a2 (atI l (n : Int)).1.2.length s2)] 43)
  have Hb12 := Lib.hid (Blk.new wa0 [(.slice a1 (atI l (n : Int)).1.1.length s1), (.slice a2 (atI l (n : Int)).1.2.length s2)] 43 rfl)
  have nea := Lib.hid (fun q (e : Value.ownBlock (.slice a1 (atI l (n : Int)).1.1.length s1) = some q) => (o1.lt q e).2)
  have neb := Lib.hid (fun q (e : Value.ownBlock (.slice a2 (atI l (n : Int)).1.2.length s2) = some q) => (o2.lt q e).2)
  replace o1 := Own.kept o1 hal
  replace o2 := Own.kept o2 hal
  replace HB := Lib.hid (HB.out.trans (hal.mono HB.out.size))
  have hsx := Nat.le_trans hsz hal.size
  go_upto_region 8 with fail
  generalize wa0.alloc (.cells #[(.slice a1 (atI l (n : Int)).1.1.length s1), (.slice a2 (atI l (n : Int)).1.2.length s2)] 43) = wx at *
  clear hal hsz
  have yc0 := HC0.out _ HB.out
  go_wp2_with fail
  refine AtRef_u ulo uhi l _ (n : Int) wx (HU.out _ HB.out) (Nat.le_trans Huh.out HB.out.size) Hl4.out _ (fun wb0 hB => ?_)
  clear yc0
  replace o1 := Own.kept o1 hB
  replace o2 := Own.kept o2 hB
  replace hsx := Nat.le_trans hsx hB.size
  replace Hb12 := Lib.hid (Hb12.out.below hB Hb12.out.lt)
  replace HB := Lib.hid (HB.out.trans (hB.mono HB.out.size))
  have H1213 := Lib.hid (show wa0.heap.size < wb0.heap.size from Hb12.out.lt)
  have hal := alloc_below wb0 (.cells #[(.string ⟨(atI l (n : Int)).1.1.toArray⟩), (.string ⟨(atI l (n : Int)).1.2.toArray⟩)] 82)
  have Hb13 := Lib.hid (Blk.new wb0 [(.string ⟨(atI l (n : Int)).1.1.toArray⟩), (.string ⟨(atI l (n : Int)).1.2.toArray⟩)] 82 rfl)
  replace o1 := Own.kept o1 hal
  replace o2 := Own.kept o2 hal
  replace hsx := Nat.le_trans hsx hal.size
  replace Hb12 := Lib.hid (Hb12.out.below hal Hb12.out.lt)
  replace HB := Lib.hid (HB.out.trans (hal.mono HB.out.size))
  go_upto_region 9 with fail
  generalize wb0.alloc (.cells #[(.string ⟨(atI l (n : Int)).1.1.toArray⟩), (.string ⟨(atI l (n : Int)).1.2.toArray⟩)] 82) = wy at *
  clear hal hB
  have m12 := Hb12.out.cells.c2
  have m13 := Hb13.out.cells.c2
  go_wp2_with fail
  refine one_any wd.heap.size (.slice a1 (atI l (n : Int)).1.1.length s1) (.slice a2 (atI l (n : Int)).1.2.length s2) (atI l (n : Int)).1 (atI l (n : Int)).2 wy o1 o2 ap hsx _ (fun wz0 hO => ?_)
  have hAB : ∀ q, Value.ownBlock (.slice a1 (atI l (n : Int)).1.1.length s1) = some q ∨ Value.ownBlock (.slice a2 (atI l (n : Int)).1.2.length s2) = some q → wd.heap.size ≤ q ∧ q < wa0.heap.size := fun q e => e.elim (fun e => ⟨(o1.lt q e).1, nea.out q e⟩) (fun e => ⟨(o2.lt q e).1, neb.out q e⟩)
  have hq := H1213.out
  have hwd := Hwd.out
  replace HB := Lib.hid (HB.out.trans (hO.below (by have := HB.out.size; omega) (fun q e => Nat.le_trans hwd (hAB q e).1)))
  replace Hb12 := Lib.hid (hO.blk Hb12.out (fun e => by have := (hAB _ e).2; omega))
  replace Hb13 := Lib.hid (hO.blk Hb13.out (fun e => by have := (hAB _ e).2; omega))
  clear nea neb
  have Hlt13 := Lib.hid (show wb0.heap.size < wz0.heap.size from Hb13.out.lt)
  clear hAB hq hwd hO m12 m13 o1 o2 ap hsx
  have yc2 := HC2.out _ HB.out
  go_wp2_with fail
  refine Back_v l t key q _ klo khi wz0 Hg.out Hl.out Hn3.out (HT.out _ HB.out) (HK.out _ HB.out) (Nat.le_trans Hkh.out HB.out.size) n En.out _ (fun wa1 x1 x2 hB o1 o2 ap => ?_)
  clear yc2
  obtain ⟨a1, s1, rfl⟩ := Own.slice o1
  obtain ⟨a2, s2, rfl⟩ := Own.slice o2
  have hsz := hB.size
  replace Hb12 := Lib.hid (Hb12.out.below hB Hb12.out.lt)
  replace Hb13 := Lib.hid (Hb13.out.below hB Hb13.out.lt)
  replace HB := Lib.hid (HB.out.trans (hB.mono HB.out.size))
  have y12 := Hb12.out.cells.c2
  have f0 := Hb12.out.free 0
  have f1 := Hb12.out.free 1
  have hset : ∀ k, k ≠ wa0.heap.size → ((wa1.setCell ⟨wa0.heap.size, 0, none⟩ (.slice a1 (atI l ((n : Int) - 1)).1.1.length s1)).setCell ⟨wa0.heap.size, 1, none⟩ (.slice a2 (atI l ((n : Int) - 1)).1.2.length s2)).heap[k]? = wa1.heap[k]? := fun k hk => (Below.heap_setCell _ _ _ _ hk).trans (Below.heap_setCell _ _ _ _ hk)
  have gt1 := Lib.hid (fun q (e : Value.ownBlock (.slice a1 (atI l ((n : Int) - 1)).1.1.length s1) = some q) => show wb0.heap.size < q by have := (o1.lt q e).1; have := Hlt13.out; omega)
  have gt2 := Lib.hid (fun q (e : Value.ownBlock (.slice a2 (atI l ((n : Int) - 1)).1.2.length s2) = some q) => show wb0.heap.size < q by have := (o2.lt q e).1; have := Hlt13.out; omega)
  have hq := H1213.out
  replace o1 := Own.same o1 (fun q e => hset q (by have := gt1.out q e; omega))
  replace o2 := Own.same o2 (fun q e => hset q (by have := gt2.out q e; omega))
  replace Hb12 := Lib.hid ((Hb12.out.set 0 (.slice a1 (atI l ((n : Int) - 1)).1.1.length s1)).set 1 (.slice a2 (atI l ((n : Int) - 1)).1.2.length s2))
  replace Hb13 := Lib.hid (show Blk ((wa1.setCell ⟨wa0.heap.size, 0, none⟩ (.slice a1 (atI l ((n : Int) - 1)).1.1.length s1)).setCell ⟨wa0.heap.size, 1, none⟩ (.slice a2 (atI l ((n : Int) - 1)).1.2.length s2)) wb0.heap.size _ 82 from (hset _ (by omega)).trans Hb13.out)
  replace HB := Lib.hid ((HB.out.setCell (p := ⟨wa0.heap.size, 0, none⟩) H0a.out (.slice a1 (atI l ((n : Int) - 1)).1.1.length s1)).setCell (p := ⟨wa0.heap.size, 1, none⟩) H0a.out (.slice a2 (atI l ((n : Int) - 1)).1.2.length s2))
  have hsx : wz0.heap.size ≤ ((wa1.setCell ⟨wa0.heap.size, 0, none⟩ (.slice a1 (atI l ((n : Int) - 1)).1.1.length s1)).setCell ⟨wa0.heap.size, 1, none⟩ (.slice a2 (atI l ((n : Int) - 1)).1.2.length s2)).heap.size := by simpa [World.setCell] using hsz
  clear hset hq
  go_upto_region 12 with fail
  generalize (wa1.setCell ⟨wa0.heap.size, 0, none⟩ (.slice a1 (atI l ((n : Int) - 1)).1.1.length s1)).setCell ⟨wa0.heap.size, 1, none⟩ (.slice a2 (atI l ((n : Int) - 1)).1.2.length s2) = wx at *
  clear y12 f0 f1 hsz hB
  have yc0 := HC0.out _ HB.out
  go_wp2_with fail
  refine AtRef_u ulo uhi l _ ((n : Int) - 1) wx (HU.out _ HB.out) (Nat.le_trans Huh.out HB.out.size) Hl4.out _ (fun wb1 hB => ?_)
  clear yc0
  replace o1 := Own.kept o1 hB
  replace o2 := Own.kept o2 hB
  replace hsx := Nat.le_trans hsx hB.size
  replace Hb12 := Lib.hid (Hb12.out.below hB Hb12.out.lt)
  replace Hb13 := Lib.hid (Hb13.out.below hB Hb13.out.lt)
  replace HB := Lib.hid (HB.out.trans (hB.mono HB.out.size))
  have y13 := Hb13.out.cells.c2
  have f0 := Hb13.out.free 0
  have f1 := Hb13.out.free 1
  have hset : ∀ k, k ≠ wb0.heap.size → ((wb1.setCell ⟨wb0.heap.size, 0, none⟩ (.string ⟨(atI l ((n : Int) - 1)).1.1.toArray⟩)).setCell ⟨wb0.heap.size, 1, none⟩ (.string ⟨(atI l ((n : Int) - 1)).1.2.toArray⟩)).heap[k]? = wb1.heap[k]? := fun k hk => (Below.heap_setCell _ _ _ _ hk).trans (Below.heap_setCell _ _ _ _ hk)
  have hq := H1213.out
  have hq2 := H0a.out
  replace o1 := Own.same o1 (fun q e => hset q (by have := gt1.out q e; omega))
  replace o2 := Own.same o2 (fun q e => hset q (by have := gt2.out q e; omega))
  replace Hb13 := Lib.hid ((Hb13.out.set 0 (.string ⟨(atI l ((n : Int) - 1)).1.1.toArray⟩)).set 1 (.string ⟨(atI l ((n : Int) - 1)).1.2.toArray⟩))
  replace Hb12 := Lib.hid (show Blk ((wb1.setCell ⟨wb0.heap.size, 0, none⟩ (.string ⟨(atI l ((n : Int) - 1)).1.1.toArray⟩)).setCell ⟨wb0.heap.size, 1, none⟩ (.string ⟨(atI l ((n : Int) - 1)).1.2.toArray⟩)) wa0.heap.size _ 43 from (hset _ (by omega)).trans Hb12.out)
  replace HB := Lib.hid ((HB.out.setCell (p := ⟨wb0.heap.size, 0, none⟩) (by simp only; omega) (.string ⟨(atI l ((n : Int) - 1)).1.1.toArray⟩)).setCell (p := ⟨wb0.heap.size, 1, none⟩) (by simp only; omega) (.string ⟨(atI l ((n : Int) - 1)).1.2.toArray⟩))
  replace hsx : wz0.heap.size ≤ ((wb1.setCell ⟨wb0.heap.size, 0, none⟩ (.string ⟨(atI l ((n : Int) - 1)).1.1.toArray⟩)).setCell ⟨wb0.heap.size, 1, none⟩ (.string ⟨(atI l ((n : Int) - 1)).1.2.toArray⟩)).heap.size := by simpa [World.setCell] using hsx
  clear hset hq hq2
  go_upto_region 13 with fail
  generalize (wb1.setCell ⟨wb0.heap.size, 0, none⟩ (.string ⟨(atI l ((n : Int) - 1)).1.1.toArray⟩)).setCell ⟨wb0.heap.size, 1, none⟩ (.string ⟨(atI l ((n : Int) - 1)).1.2.toArray⟩) = wy at *
  clear y13 f0 f1 hB
  have m12 := Hb12.out.cells.c2
  have m13 := Hb13.out.cells.c2
  go_wp2_with fail
  refine one_any wz0.heap.size (.slice a1 (atI l ((n : Int) - 1)).1.1.length s1) (.slice a2 (atI l ((n : Int) - 1)).1.2.length s2) (atI l ((n : Int) - 1)).1 (atI l ((n : Int) - 1)).2 wy o1 o2 ap hsx _ (fun wz1 hO => ?_)
  have hAB : ∀ q, Value.ownBlock (.slice a1 (atI l ((n : Int) - 1)).1.1.length s1) = some q ∨ Value.ownBlock (.slice a2 (atI l ((n : Int) - 1)).1.2.length s2) = some q → wb0.heap.size < q := fun q e => e.elim (gt1.out q) (gt2.out q)
  have hq := H1213.out
  have hwd := H0a.out
  replace HB := Lib.hid (HB.out.trans (hO.below (by have := HB.out.size; omega) (fun q e => by have := hAB q e; omega)))
  replace Hb12 := Lib.hid (hO.blk Hb12.out (fun e => by have := hAB _ e; omega))
  replace Hb13 := Lib.hid (hO.blk Hb13.out (fun e => by have := hAB _ e; omega))
  clear gt1 gt2
  replace Hlt13 := Lib.hid (show wb0.heap.size < wz1.heap.size from Hb13.out.lt)
  clear hAB hq hwd hO m12 m13 o1 o2 ap hsx hB
  have Hz1 := Lib.hid HB.out.size
  have Hz12 := Lib.hid Hb12.out.lt
  have Hz13 := Lib.hid Hb13.out.lt
  have yc5 := HC5.out _ HB.out
  go_wp2_with fail
  refine At_u l t q m wz1 Hg.out Hl.out Hn3.out (HT.out _ HB.out) _ (fun wa2 x1 x2 hB o1 o2 ap => ?_)
  clear yc5
  obtain ⟨a1, s1, rfl⟩ := Own.slice o1
  obtain ⟨a2, s2, rfl⟩ := Own.slice o2
  have hsz := hB.size
  replace Hb12 := Lib.hid (Hb12.out.below hB Hb12.out.lt)
  replace Hb13 := Lib.hid (Hb13.out.below hB Hb13.out.lt)
  replace HB := Lib.hid (HB.out.trans (hB.mono HB.out.size))
  have y12 := Hb12.out.cells.c2
  have f0 := Hb12.out.free 0
  have f1 := Hb12.out.free 1
  have hset : ∀ k, k ≠ wa0.heap.size → ((wa2.setCell ⟨wa0.heap.size, 0, none⟩ (.slice a1 (atI l m).1.1.length s1)).setCell ⟨wa0.heap.size, 1, none⟩ (.slice a2 (atI l m).1.2.length s2)).heap[k]? = wa2.heap[k]? := fun k hk => (Below.heap_setCell _ _ _ _ hk).trans (Below.heap_setCell _ _ _ _ hk)
  have gt1 := Lib.hid (fun q (e : Value.ownBlock (.slice a1 (atI l m).1.1.length s1) = some q) => show wb0.heap.size < q by have := (o1.lt q e).1; have := Hlt13.out; omega)
  have gt2 := Lib.hid (fun q (e : Value.ownBlock (.slice a2 (atI l m).1.2.length s2) = some q) => show wb0.heap.size < q by have := (o2.lt q e).1; have := Hlt13.out; omega)
  have hq := H1213.out
  replace o1 := Own.same o1 (fun q e => hset q (by have := gt1.out q e; omega))
  replace o2 := Own.same o2 (fun q e => hset q (by have := gt2.out q e; omega))
  replace Hb12 := Lib.hid ((Hb12.out.set 0 (.slice a1 (atI l m).1.1.length s1)).set 1 (.slice a2 (atI l m).1.2.length s2))
  replace Hb13 := Lib.hid (show Blk ((wa2.setCell ⟨wa0.heap.size, 0, none⟩ (.slice a1 (atI l m).1.1.length s1)).setCell ⟨wa0.heap.size, 1, none⟩ (.slice a2 (atI l m).1.2.length s2)) wb0.heap.size _ 82 from (hset _ (by omega)).trans Hb13.out)
  replace HB := Lib.hid ((HB.out.setCell (p := ⟨wa0.heap.size, 0, none⟩) H0a.out (.slice a1 (atI l m).1.1.length s1)).setCell (p := ⟨wa0.heap.size, 1, none⟩) H0a.out (.slice a2 (atI l m).1.2.length s2))
  have hsx : wz1.heap.size ≤ ((wa2.setCell ⟨wa0.heap.size, 0, none⟩ (.slice a1 (atI l m).1.1.length s1)).setCell ⟨wa0.heap.size, 1, none⟩ (.slice a2 (atI l m).1.2.length s2)).heap.size := by simpa [World.setCell] using hsz
  clear hset hq
  go_upto_region 16 with fail
  generalize (wa2.setCell ⟨wa0.heap.size, 0, none⟩ (.slice a1 (atI l m).1.1.length s1)).setCell ⟨wa0.heap.size, 1, none⟩ (.slice a2 (atI l m).1.2.length s2) = wx at *
  clear y12 f0 f1 hsz hB
  have yc0 := HC0.out _ HB.out
  have yc5 := HC5.out _ HB.out
  go_wp2_with fail
  refine AtRef_u ulo uhi l _ m wx (HU.out _ HB.out) (Nat.le_trans Huh.out HB.out.size) Hl4.out _ (fun wb2 hB => ?_)
  clear yc0 yc5
  replace o1 := Own.kept o1 hB
  replace o2 := Own.kept o2 hB
  replace hsx := Nat.le_trans hsx hB.size
  replace Hb12 := Lib.hid (Hb12.out.below hB Hb12.out.lt)
  replace Hb13 := Lib.hid (Hb13.out.below hB Hb13.out.lt)
  replace HB := Lib.hid (HB.out.trans (hB.mono HB.out.size))
  have y13 := Hb13.out.cells.c2
  have f0 := Hb13.out.free 0
  have f1 := Hb13.out.free 1
  have hset : ∀ k, k ≠ wb0.heap.size → ((wb2.setCell ⟨wb0.heap.size, 0, none⟩ (.string ⟨(atI l m).1.1.toArray⟩)).setCell ⟨wb0.heap.size, 1, none⟩ (.string ⟨(atI l m).1.2.toArray⟩)).heap[k]? = wb2.heap[k]? := fun k hk => (Below.heap_setCell _ _ _ _ hk).trans (Below.heap_setCell _ _ _ _ hk)
  have hq := H1213.out
  have hq2 := H0a.out
  replace o1 := Own.same o1 (fun q e => hset q (by have := gt1.out q e; omega))
  replace o2 := Own.same o2 (fun q e => hset q (by have := gt2.out q e; omega))
  replace Hb13 := Lib.hid ((Hb13.out.set 0 (.string ⟨(atI l m).1.1.toArray⟩)).set 1 (.string ⟨(atI l m).1.2.toArray⟩))
  replace Hb12 := Lib.hid (show Blk ((wb2.setCell ⟨wb0.heap.size, 0, none⟩ (.string ⟨(atI l m).1.1.toArray⟩)).setCell ⟨wb0.heap.size, 1, none⟩ (.string ⟨(atI l m).1.2.toArray⟩)) wa0.heap.size _ 43 from (hset _ (by omega)).trans Hb12.out)
  replace HB := Lib.hid ((HB.out.setCell (p := ⟨wb0.heap.size, 0, none⟩) (by simp only; omega) (.string ⟨(atI l m).1.1.toArray⟩)).setCell (p := ⟨wb0.heap.size, 1, none⟩) (by simp only; omega) (.string ⟨(atI l m).1.2.toArray⟩))
  replace hsx : wz1.heap.size ≤ ((wb2.setCell ⟨wb0.heap.size, 0, none⟩ (.string ⟨(atI l m).1.1.toArray⟩)).setCell ⟨wb0.heap.size, 1, none⟩ (.string ⟨(atI l m).1.2.toArray⟩)).heap.size := by simpa [World.setCell] using hsx
  clear hset hq hq2
  go_upto_region 17 with fail
  generalize (wb2.setCell ⟨wb0.heap.size, 0, none⟩ (.string ⟨(atI l m).1.1.toArray⟩)).setCell ⟨wb0.heap.size, 1, none⟩ (.string ⟨(atI l m).1.2.toArray⟩) = wy at *
  clear y13 f0 f1 hB
  refine wp_region_held_drew (S := fun w' => Below wz1.heap.size wy w') (by kernel_rfl) (Below.drew (Below.refl _ _)) (fun hHeld => ?_)
  refine wpAnyH_take (i := 0) (v := .agg #[.slice a1 (atI l m).1.1.length s1, .slice a2 (atI l m).1.2.length s2]) rfl (by kernel_rfl) (by kernel_rfl) (by kernel_rfl) (fun _ _ _ h => h) (Or.inl ⟨by rfl, ?_⟩) hHeld ?_
  · intro w' hSw; obtain ⟨k0, k1⟩ := (Hb12.out.below hSw Hz12.out).cells.c2; go_simp
  try simp only [Act.put, List.getElem_toArray, List.getElem_cons_succ, List.getElem_cons_zero, List.setIfInBounds_toArray, List.set_cons_zero, List.set_cons_succ]
  refine wpAnyH_take (i := 1) (v := .bool (atI l m).2) rfl (by kernel_rfl) (by kernel_rfl) (by kernel_rfl) (fun _ _ _ h => h) (Or.inl ⟨by rfl, ?_⟩) hHeld ?_
  · intro w' hSw; go_simp
  try simp only [Act.put, List.getElem_toArray, List.getElem_cons_succ, List.getElem_cons_zero, List.setIfInBounds_toArray, List.set_cons_zero, List.set_cons_succ]
  refine wpAnyH_take (i := 2) (v := .agg #[.string ⟨(atI l m).1.1.toArray⟩, .string ⟨(atI l m).1.2.toArray⟩]) rfl (by kernel_rfl) (by kernel_rfl) (by kernel_rfl) (fun _ _ _ h => h) (Or.inl ⟨by rfl, ?_⟩) hHeld ?_
  · intro w' hSw; obtain ⟨k0, k1⟩ := (Hb13.out.below hSw Hz13.out).cells.c2; go_simp
  try simp only [Act.put, List.getElem_toArray, List.getElem_cons_succ, List.getElem_cons_zero, List.setIfInBounds_toArray, List.set_cons_zero, List.set_cons_succ]
  refine wpAnyH_take (i := 3) (v := .bool (atI l m).2) rfl (by kernel_rfl) (by kernel_rfl) (by kernel_rfl) (fun _ _ _ h => h) (Or.inl ⟨by rfl, ?_⟩) hHeld ?_
  · intro w' hSw; go_simp
  try simp only [Act.put, List.getElem_toArray, List.getElem_cons_succ, List.getElem_cons_zero, List.setIfInBounds_toArray, List.set_cons_zero, List.set_cons_succ]
  refine wpAnyH_ready (rs := [4]) (by kernel_rfl) (by simp) ?_
  refine allCall (f := 41) (args := #[.agg #[.slice a1 (atI l m).1.1.length s1, .slice a2 (atI l m).1.2.length s2], .bool (atI l m).2, .agg #[.string ⟨(atI l m).1.1.toArray⟩, .string ⟨(atI l m).1.2.toArray⟩], .bool (atI l m).2]) rfl (by kernel_rfl) (by kernel_rfl) ?_ AllReadyH.nil
  refine one_any wz1.heap.size (.slice a1 (atI l m).1.1.length s1) (.slice a2 (atI l m).1.2.length s2) (atI l m).1 (atI l m).2 wy.drew (o1.same (fun _ _ => rfl)) (o2.same (fun _ _ => rfl)) ap hsx _ (fun wo hO => ?_)
  have hH2 : Below wz1.heap.size wy wo := hHeld.trans (hO.below hsx (fun k e => e.elim (fun e => (o1.lt k e).1) (fun e => (o2.lt k e).1)))
  refine ⟨_, rfl, hH2, ?_⟩
  clear hHeld hO
  have hHeld := hH2
  clear hH2
  try simp only [Act.put, List.getElem_toArray, List.getElem_cons_succ, List.getElem_cons_zero, List.setIfInBounds_toArray, List.set_cons_zero, List.set_cons_succ]
  refine wpAnyH_take (i := 5) (v := .bool true) rfl (by kernel_rfl) (by kernel_rfl) (by kernel_rfl) (fun _ _ _ h => h) (Or.inl ⟨by rfl, ?_⟩) hHeld ?_
  · intro w' hSw; go_simp
  try simp only [Act.put, List.getElem_toArray, List.getElem_cons_succ, List.getElem_cons_zero, List.setIfInBounds_toArray, List.set_cons_zero, List.set_cons_succ]
  refine wpAnyH_take (i := 6) (v := .pointer q) rfl (by kernel_rfl) (by kernel_rfl) (by kernel_rfl) (fun _ _ _ h => h) (Or.inl ⟨by rfl, ?_⟩) hHeld ?_
  · intro w' hSw; go_simp
  try simp only [Act.put, List.getElem_toArray, List.getElem_cons_succ, List.getElem_cons_zero, List.setIfInBounds_toArray, List.set_cons_zero, List.set_cons_succ]
  refine wpAnyH_take (i := 7) (v := .pointer (some ⟨(w.heap.size + 1), 2, none⟩)) rfl (by kernel_rfl) (by kernel_rfl) (by kernel_rfl) (fun _ _ _ h => h) (Or.inl ⟨by rfl, ?_⟩) hHeld ?_
  · intro w' hSw; go_simp
  try simp only [Act.put, List.getElem_toArray, List.getElem_cons_succ, List.getElem_cons_zero, List.setIfInBounds_toArray, List.set_cons_zero, List.set_cons_succ]
  refine wpAnyH_take (i := 8) (v := .slice ak key.length ck) rfl (by kernel_rfl) (by kernel_rfl) (by kernel_rfl) (fun _ _ _ h => h) (Or.inl ⟨by rfl, ?_⟩) hHeld ?_
  · intro w' hSw; have kx := HC2.out w' (HB.out.trans (hSw.mono Hz1.out)); go_simp
  try simp only [Act.put, List.getElem_toArray, List.getElem_cons_succ, List.getElem_cons_zero, List.setIfInBounds_toArray, List.set_cons_zero, List.set_cons_succ]
  refine wpAnyH_take (i := 9) (v := .pointer (some ⟨(w.heap.size + 1), 4, none⟩)) rfl (by kernel_rfl) (by kernel_rfl) (by kernel_rfl) (fun _ _ _ h => h) (Or.inl ⟨by rfl, ?_⟩) hHeld ?_
  · intro w' hSw; go_simp
  try simp only [Act.put, List.getElem_toArray, List.getElem_cons_succ, List.getElem_cons_zero, List.setIfInBounds_toArray, List.set_cons_zero, List.set_cons_succ]
  refine wpAnyH_take (i := 10) (v := .slice at_ to.length ct) rfl (by kernel_rfl) (by kernel_rfl) (by kernel_rfl) (fun _ _ _ h => h) (Or.inl ⟨by rfl, ?_⟩) hHeld ?_
  · intro w' hSw; have kx := HC4.out w' (HB.out.trans (hSw.mono Hz1.out)); go_simp
  try simp only [Act.put, List.getElem_toArray, List.getElem_cons_succ, List.getElem_cons_zero, List.setIfInBounds_toArray, List.set_cons_zero, List.set_cons_succ]
  refine wpAnyH_take (i := 11) (v := .pointer (some ⟨(w.heap.size + 1), 5, none⟩)) rfl (by kernel_rfl) (by kernel_rfl) (by kernel_rfl) (fun _ _ _ h => h) (Or.inl ⟨by rfl, ?_⟩) hHeld ?_
  · intro w' hSw; go_simp
  try simp only [Act.put, List.getElem_toArray, List.getElem_cons_succ, List.getElem_cons_zero, List.setIfInBounds_toArray, List.set_cons_zero, List.set_cons_succ]
  refine wpAnyH_take (i := 12) (v := .int .i64 m) rfl (by kernel_rfl) (by kernel_rfl) (by kernel_rfl) (fun _ _ _ h => h) (Or.inl ⟨by rfl, ?_⟩) hHeld ?_
  · intro w' hSw; have kx := HC5.out w' (HB.out.trans (hSw.mono Hz1.out)); go_simp
  try simp only [Act.put, List.getElem_toArray, List.getElem_cons_succ, List.getElem_cons_zero, List.setIfInBounds_toArray, List.set_cons_zero, List.set_cons_succ]
  refine wpAnyH_take (i := 14) (v := .agg #[.slice (some ⟨b, off, none⟩) l.length cu]) rfl (by kernel_rfl) (by kernel_rfl) (by kernel_rfl) (fun _ _ _ h => h) (Or.inl ⟨by rfl, ?_⟩) hHeld ?_
  · intro w' hSw; have kx := HC0.out w' (HB.out.trans (hSw.mono Hz1.out)); go_simp
  try simp only [Act.put, List.getElem_toArray, List.getElem_cons_succ, List.getElem_cons_zero, List.setIfInBounds_toArray, List.set_cons_zero, List.set_cons_succ]
  refine wpAnyH_take (i := 15) (v := .string ⟨key.toArray⟩) rfl (by kernel_rfl) (by kernel_rfl) (by kernel_rfl) (fun _ _ _ h => h) (Or.inl ⟨by rfl, ?_⟩) hHeld ?_
  · intro w' hSw; go_simp
  try simp only [Act.put, List.getElem_toArray, List.getElem_cons_succ, List.getElem_cons_zero, List.setIfInBounds_toArray, List.set_cons_zero, List.set_cons_succ]
  refine wpAnyH_take (i := 16) (v := .pointer (some ⟨(w.heap.size + 1), 4, none⟩)) rfl (by kernel_rfl) (by kernel_rfl) (by kernel_rfl) (fun _ _ _ h => h) (Or.inl ⟨by rfl, ?_⟩) hHeld ?_
  · intro w' hSw; go_simp
  try simp only [Act.put, List.getElem_toArray, List.getElem_cons_succ, List.getElem_cons_zero, List.setIfInBounds_toArray, List.set_cons_zero, List.set_cons_succ]
  refine wpAnyH_take (i := 17) (v := .slice at_ to.length ct) rfl (by kernel_rfl) (by kernel_rfl) (by kernel_rfl) (fun _ _ _ h => h) (Or.inl ⟨by rfl, ?_⟩) hHeld ?_
  · intro w' hSw; have kx := HC4.out w' (HB.out.trans (hSw.mono Hz1.out)); go_simp
  try simp only [Act.put, List.getElem_toArray, List.getElem_cons_succ, List.getElem_cons_zero, List.setIfInBounds_toArray, List.set_cons_zero, List.set_cons_succ]
  refine wpAnyH_take (i := 18) (v := .string ⟨to.toArray⟩) rfl (by kernel_rfl) (by kernel_rfl) (by kernel_rfl) (fun _ _ _ h => h) (Or.inl ⟨by rfl, ?_⟩) hHeld ?_
  · intro w' hSw; have kx := str (HTo.out w' (HB.out.trans (hSw.mono Hz1.out))); go_simp
  try simp only [Act.put, List.getElem_toArray, List.getElem_cons_succ, List.getElem_cons_zero, List.setIfInBounds_toArray, List.set_cons_zero, List.set_cons_succ]
  refine wpAnyH_take (i := 19) (v := .pointer (some ⟨(w.heap.size + 1), 5, none⟩)) rfl (by kernel_rfl) (by kernel_rfl) (by kernel_rfl) (fun _ _ _ h => h) (Or.inl ⟨by rfl, ?_⟩) hHeld ?_
  · intro w' hSw; go_simp
  try simp only [Act.put, List.getElem_toArray, List.getElem_cons_succ, List.getElem_cons_zero, List.setIfInBounds_toArray, List.set_cons_zero, List.set_cons_succ]
  refine wpAnyH_take (i := 20) (v := .int .i64 m) rfl (by kernel_rfl) (by kernel_rfl) (by kernel_rfl) (fun _ _ _ h => h) (Or.inl ⟨by rfl, ?_⟩) hHeld ?_
  · intro w' hSw; have kx := HC5.out w' (HB.out.trans (hSw.mono Hz1.out)); go_simp
  try simp only [Act.put, List.getElem_toArray, List.getElem_cons_succ, List.getElem_cons_zero, List.setIfInBounds_toArray, List.set_cons_zero, List.set_cons_succ]
  refine wpAnyH_ready (rs := [13]) (by kernel_rfl) (by simp) ?_
  refine allCall (f := 14) (args := #[.pointer q, .slice ak key.length ck, .slice at_ to.length ct, .int .i64 m]) rfl (by kernel_rfl) (by kernel_rfl) ?_ AllReadyH.nil
  have HBo := HB.out.trans (hHeld.mono Hz1.out)
  refine Range_any Nn 0 klo khi tlo thi t key to _ _ _ m wo (Nn.lt _) (Nat.zero_le _) (HT.out _ HBo) (HK.out _ HBo) (Nat.le_trans Hkh.out HBo.size) (HTo.out _ HBo) (Nat.le_trans Hth.out HBo.size) Hm6.out Hg.out.len8 _ (fun wp vr ps hBp hP => ?_)
  rw [T.from_eq _ _ Hg.out.rises, Hl.out, ← rng_eq key to m l Hri.out] at hP
  obtain ⟨pp, cp, rfl⟩ := hP.form
  have hH2 : Below wz1.heap.size wy wp := hHeld.trans (hBp.mono (by have := hHeld.size; omega))
  refine ⟨_, rfl, hH2, ?_⟩
  have hbo := hBp.size
  have hho := hHeld.size
  clear hHeld hBp HBo
  have hHeld := hH2
  clear hH2
  try simp only [Act.put, List.getElem_toArray, List.getElem_cons_succ, List.getElem_cons_zero, List.setIfInBounds_toArray, List.set_cons_zero, List.set_cons_succ]
  refine wpAnyH_ready (rs := [21]) (by kernel_rfl) (by simp) ?_
  refine allCall (f := 42) (args := #[.agg #[.slice (some ⟨b, off, none⟩) l.length cu], .string ⟨key.toArray⟩, .string ⟨to.toArray⟩, .int .i64 m]) rfl (by kernel_rfl) (by kernel_rfl) ?_ AllReadyH.nil
  have HBo := HB.out.trans (hHeld.mono Hz1.out)
  refine Range_ref ulo uhi l _ key to m wp (HU.out _ HBo) (Nat.le_trans Huh.out HBo.size) Hl3.out _ (fun wq vq hBq ho => ?_)
  obtain ⟨pq, cq, rfl⟩ := OwnR.form ho
  have hH2 : Below wz1.heap.size wy wq := hHeld.trans (hBq.mono (by omega))
  refine ⟨_, rfl, hH2, ?_⟩
  clear hHeld HBo
  have hHeld := hH2
  clear hH2
  try simp only [Act.put, List.getElem_toArray, List.getElem_cons_succ, List.getElem_cons_zero, List.setIfInBounds_toArray, List.set_cons_zero, List.set_cons_succ]
  refine wpAnyH_ready (rs := [22]) (by kernel_rfl) (by simp) ?_
  refine allCall (f := 26) (args := #[.slice pp (rngF key to m l).length cp, .slice pq (rngF key to m l).length cq]) rfl (by kernel_rfl) (by kernel_rfl) ?_ AllReadyH.nil
  have hP2 := hP.below hBq
  refine same_any wo.heap.size wp.heap.size wq.heap.size ps (rngF key to m l) _ _ wq hP2 (fun w' hO => Sl.agree (OwnR.rs ho) (flat_loc _) (hO.agree (Nat.le_refl _) (fun k hk => .inl (hP.lt.2 k hk).2))) (Nat.le_trans (rng_len key to m l) (by have := Hl3.out; omega)) _ (fun wr hO => ?_)
  have hH2 : Below wz1.heap.size wy wr := hHeld.trans (hO.below (by have := hBq.size; omega) (fun k hk => by have := (hP.lt.2 k hk).1; omega))
  refine ⟨_, rfl, hH2, ?_⟩
  have hr := HR.out wr (HB0.out.trans ((HB.out.trans (hH2.mono Hz1.out)).mono HB0.out.size))
  clear hHeld hP2 hO hBq ho hP
  have hHeld := hH2
  clear hH2
  try simp only [Act.put, List.getElem_toArray, List.getElem_cons_succ, List.getElem_cons_zero, List.setIfInBounds_toArray, List.set_cons_zero, List.set_cons_succ]
  refine wpAnyH_take (i := 23) (v := .bool true) rfl (by kernel_rfl) (by kernel_rfl) (by kernel_rfl) (fun _ _ _ h => h) (Or.inl ⟨by rfl, ?_⟩) hHeld ?_
  · intro w' hSw; go_simp
  try simp only [Act.put, List.getElem_toArray, List.getElem_cons_succ, List.getElem_cons_zero, List.setIfInBounds_toArray, List.set_cons_zero, List.set_cons_succ]
  refine wpAnyH_take (i := 24) (v := .bool true) rfl (by kernel_rfl) (by kernel_rfl) (by kernel_rfl) (fun _ _ _ h => h) (Or.inl ⟨by rfl, ?_⟩) hHeld ?_
  · intro w' hSw; go_simp
  try simp only [Act.put, List.getElem_toArray, List.getElem_cons_succ, List.getElem_cons_zero, List.setIfInBounds_toArray, List.set_cons_zero, List.set_cons_succ]
  refine wpAnyH_done (by kernel_rfl) ?_ _
  clear hHeld
  go_wp2_with fail
  first | exact hr | exact fin hr rfl

set_option maxRecDepth 100000 in
set_option maxHeartbeats 16000000 in
theorem tells_none (ulo uhi klo khi tlo thi : Nat) (t : T) (l : PL) (key to : List UInt8) (kind frm m : Int) (q : Option Addr) (uv kv vv tv : Value) (w : World) {g : Nat} (hgr : Gr t g) (hl : t.toL = l) (hn : g ≤ 1000) (ht : Tr Nn 0 w t (.pointer q)) (hu : Rs ulo uhi w uv l) (huh : uhi ≤ w.heap.size)
    (hk : Bytes klo khi w kv key) (hkh : khi ≤ w.heap.size) (hto : Bytes tlo thi w tv to) (hth : thi ≤ w.heap.size) (hvv : ∃ a n c, vv = .slice a n c)
    (hg : getL key l = none) (R : Ending → World → Prop) (hR : ∀ w', Below w.heap.size w w' → R (.returned (.bool true)) w') : Calls Try.prog 25 #[.pointer q, .agg #[uv], .agg #[.int .i64 kind, .int .u16 frm, kv, vv, tv, .int .i64 m]] w R := by
  obtain ⟨au, cu, rfl, -, -, -, -⟩ := Sl.form hu
  obtain ⟨ak, ck, rfl, -, -, -, -⟩ := Sl.form hk
  obtain ⟨at_, ct, rfl, -, -, -, -⟩ := Sl.form hto
  obtain ⟨av, nv, cv, rfl⟩ := hvv
  have HR := Lib.hid hR
  have hb0 : Below w.heap.size w ((w.alloc (.cells #[.slice au l.length cu] 56)).alloc (.cells #[.int .i64 kind, .int .u16 frm, .slice ak key.length ck, .slice av nv cv, .slice at_ to.length ct, .int .i64 m] 32)) := ((Below.refl _ _).alloc (Nat.le_refl _) _).alloc (by simp) _
  have hc0 := (Blk.new w [.slice au l.length cu] 56 rfl).alloc (.cells #[.int .i64 kind, .int .u16 frm, .slice ak key.length ck, .slice av nv cv, .slice at_ to.length ct, .int .i64 m] 32)
  have hc1 := Blk.new (n := w.heap.size + 1) (w.alloc (.cells #[.slice au l.length cu] 56)) [.int .i64 kind, .int .u16 frm, .slice ak key.length ck, .slice av nv cv, .slice at_ to.length ct, .int .i64 m] 32 (by simp)
  have x0 := hc0.cells.c1
  obtain ⟨-, -, x2, -, x4, x5⟩ := hc1.cells.c6
  have HB0 := Lib.hid hb0
  have hlt0 := hc0.lt
  have hlt1 := hc1.lt
  have HT := Lib.hid (Tr.kp (ht.step (Nn.lt _) (Nat.zero_le _) hb0) (Nat.zero_le _))
  have hu0 := Rs.low hu hb0 huh
  have hk0 := Sl.below hk (flat_loc _) hb0 hkh
  have hto0 := Sl.below hto (flat_loc _) hb0 hth
  have Hm6 : Hid (t.many ≤ 1000000) := Lib.hid (by have := hgr.many; omega)
  have hml := T.many_toL t
  rw [hl] at hml
  have Hl4 : Hid (l.length ≤ 100000) := Lib.hid (by have := hgr.many; omega)
  have Hl3 : Hid (l.length ≤ 10000) := Lib.hid (by have := hgr.many; omega)
  have hl5 : l.length ≤ 100000 := Hl4.out
  have Hri : Hid (Rises l) := Lib.hid (hl ▸ hgr.rises)
  have hrk := T.rank_eq key t hgr.rises
  rw [hl] at hrk
  have Hml : Hid (t.many = l.length) := Lib.hid hml.symm
  have hcv := str hk0
  have Hl := Lib.hid hl
  have Hg := Lib.hid hgr
  have Hn3 := Lib.hid hn
  clear hR hb0 ht hml hu hk hto hl hgr
  go_enter Try.func25, Try.ntmps25
  go_upto_region 1 with fail
  generalize hw0 : (w.alloc (.cells #[.slice au l.length cu] 56)).alloc (.cells #[.int .i64 kind, .int .u16 frm, .slice ak key.length ck, .slice av nv cv, .slice at_ to.length ct, .int .i64 m] 32) = w0 at *
  clear hw0 hc0 hc1
  have HC0 := Lib.hid (cell_kp x0 hlt0)
  have HC2 := Lib.hid (cell_kp x2 hlt1)
  have HC4 := Lib.hid (cell_kp x4 hlt1)
  have HC5 := Lib.hid (cell_kp x5 hlt1)
  have HB := Lib.hid (Below.refl w0.heap.size w0)
  have Huh := Lib.hid (Nat.le_trans huh HB0.out.size)
  have Hkh := Lib.hid (Nat.le_trans hkh HB0.out.size)
  have Hth := Lib.hid (Nat.le_trans hth HB0.out.size)
  have HU : Hid (Kp (fun w => Rs ulo uhi w (.slice au l.length cu) l) w0) := Lib.hid (fun w' hB => Rs.low hu0 hB Huh.out)
  have HK := Lib.hid (Bytes.kp hk0 Hkh.out)
  have HTo := Lib.hid (Bytes.kp hto0 Hth.out)
  clear x4 x5 huh hkh hth hlt0 hlt1 hu0 hk0 hto0
  go_wp2_with fail
  refine Rank_ref ulo uhi l _ key w0 (HU.out _ HB.out) Huh.out Hl4.out _ (fun w1 hB1 => ?_)
  obtain ⟨n, en⟩ : ∃ n, n = (lowL key l).length := ⟨_, rfl⟩
  have En := Lib.hid en
  have hn0 : n ≤ l.length := by rw [en]; exact List.length_filter_le _ _
  rw [← en] at hrk ⊢
  have Hrk : Hid (t.rank key = n) := Lib.hid hrk
  have n0 : (0 : Int) ≤ (n : Int) := by omega
  have n9 : (n : Int) ≤ 100000 := by omega
  clear en hrk x0 x2 hcv
  replace HB := Lib.hid (HB.out.trans (hB1.mono HB.out.size))
  have yc0 := HC0.out _ HB.out
  clear hB1
  go_wp2_with fail
  refine Has_ref ulo uhi l _ key w1 (HU.out _ HB.out) (Nat.le_trans Huh.out HB.out.size) Hl4.out Hri.out _ (fun w2 hB2 => ?_)
  replace HB := Lib.hid (HB.out.trans (hB2.mono HB.out.size))
  have yc2 := HC2.out _ HB.out
  clear hB2 yc0
  go_wp2_with fail
  refine Get_u 0 klo khi g t key _ _ w2 (Nat.zero_le _) (HT.out _ HB.out) (HK.out _ HB.out) Hg.out [] false (by rw [Hl.out, hg]; rfl) (by rw [Hl.out, hg]; rfl) _ (fun w3 a3 c3 hB3 hx3 => ?_)
  replace HB := Lib.hid (HB.out.trans (hB3.mono HB.out.size))
  clear hB3 yc2
  rw [List.length_nil]
  clear hg
  have HU3 := Lib.hid (HU.out w3 HB.out)
  have HT3 := Lib.hid (HT.out w3 HB.out)
  have HK3 := Lib.hid (HK.out w3 HB.out)
  have hkh3 : khi ≤ w3.heap.size := Nat.le_trans Hkh.out HB.out.size
  have yc0 := HC0.out _ HB.out
  have yc2 := HC2.out _ HB.out
  clear hx3
  go_wp2_with fail
  refine wp_region_held_drew (S := fun w' => w' = w3.drew) (by kernel_rfl) rfl (fun hHeld => ?_)
  refine wpAnyH_take (i := 0) (v := .pointer q) rfl (by kernel_rfl) (by kernel_rfl) (by kernel_rfl) (fun _ _ _ h => h) (Or.inl ⟨by rfl, ?_⟩) hHeld ?_
  · intro w' hSw; subst hSw; go_simp
  try simp only [Act.put, List.getElem_toArray, List.getElem_cons_succ, List.getElem_cons_zero, List.setIfInBounds_toArray, List.set_cons_zero, List.set_cons_succ]
  refine wpAnyH_take (i := 2) (v := .pointer (some ⟨w.heap.size, 0, none⟩)) rfl (by kernel_rfl) (by kernel_rfl) (by kernel_rfl) (fun _ _ _ h => h) (Or.inl ⟨by rfl, ?_⟩) hHeld ?_
  · intro w' hSw; subst hSw; go_simp
  try simp only [Act.put, List.getElem_toArray, List.getElem_cons_succ, List.getElem_cons_zero, List.setIfInBounds_toArray, List.set_cons_zero, List.set_cons_succ]
  refine wpAnyH_take (i := 3) (v := .slice au l.length cu) rfl (by kernel_rfl) (by kernel_rfl) (by kernel_rfl) (fun _ _ _ h => h) (Or.inl ⟨by rfl, ?_⟩) hHeld ?_
  · intro w' hSw; subst hSw; go_simp
  try simp only [Act.put, List.getElem_toArray, List.getElem_cons_succ, List.getElem_cons_zero, List.setIfInBounds_toArray, List.set_cons_zero, List.set_cons_succ]
  refine wpAnyH_take (i := 4) (v := .int .i64 ((l.length : Int))) rfl (by kernel_rfl) (by kernel_rfl) (by kernel_rfl) (fun _ _ _ h => h) (Or.inl ⟨by rfl, ?_⟩) hHeld ?_
  · intro w' hSw; subst hSw; go_simp
  try simp only [Act.put, List.getElem_toArray, List.getElem_cons_succ, List.getElem_cons_zero, List.setIfInBounds_toArray, List.set_cons_zero, List.set_cons_succ]
  refine wpAnyH_ready (rs := [1]) (by kernel_rfl) (by simp) ?_
  refine allCall (f := 16) (args := #[.pointer q]) rfl (by kernel_rfl) (by kernel_rfl) ?_ AllReadyH.nil
  refine Len_any Nn 0 t _ w3.drew (Tr.step HT3.out (Nn.lt _) (Nat.zero_le _) (Below.drew (Below.refl _ _))) _ ?_
  rw [Hml.out]
  refine ⟨_, rfl, rfl, ?_⟩
  try simp only [Act.put, List.getElem_toArray, List.getElem_cons_succ, List.getElem_cons_zero, List.setIfInBounds_toArray, List.set_cons_zero, List.set_cons_succ]
  refine wpAnyH_take (i := 5) (v := .bool false) rfl (by kernel_rfl) (by kernel_rfl) (by kernel_rfl) (fun _ _ _ h => h) (Or.inl ⟨by rfl, ?_⟩) hHeld ?_
  · intro w' hSw; subst hSw; go_simp
  try simp only [Act.put, List.getElem_toArray, List.getElem_cons_succ, List.getElem_cons_zero, List.setIfInBounds_toArray, List.set_cons_zero, List.set_cons_succ]
  refine wpAnyH_take (i := 6) (v := .bool false) rfl (by kernel_rfl) (by kernel_rfl) (by kernel_rfl) (fun _ _ _ h => h) (Or.inl ⟨by rfl, ?_⟩) hHeld ?_
  · intro w' hSw; subst hSw; go_simp
  try simp only [Act.put, List.getElem_toArray, List.getElem_cons_succ, List.getElem_cons_zero, List.setIfInBounds_toArray, List.set_cons_zero, List.set_cons_succ]
  refine wpAnyH_take (i := 7) (v := .pointer q) rfl (by kernel_rfl) (by kernel_rfl) (by kernel_rfl) (fun _ _ _ h => h) (Or.inl ⟨by rfl, ?_⟩) hHeld ?_
  · intro w' hSw; subst hSw; go_simp
  try simp only [Act.put, List.getElem_toArray, List.getElem_cons_succ, List.getElem_cons_zero, List.setIfInBounds_toArray, List.set_cons_zero, List.set_cons_succ]
  refine wpAnyH_take (i := 8) (v := .pointer (some ⟨(w.heap.size + 1), 2, none⟩)) rfl (by kernel_rfl) (by kernel_rfl) (by kernel_rfl) (fun _ _ _ h => h) (Or.inl ⟨by rfl, ?_⟩) hHeld ?_
  · intro w' hSw; subst hSw; go_simp
  try simp only [Act.put, List.getElem_toArray, List.getElem_cons_succ, List.getElem_cons_zero, List.setIfInBounds_toArray, List.set_cons_zero, List.set_cons_succ]
  refine wpAnyH_take (i := 9) (v := .slice ak key.length ck) rfl (by kernel_rfl) (by kernel_rfl) (by kernel_rfl) (fun _ _ _ h => h) (Or.inl ⟨by rfl, ?_⟩) hHeld ?_
  · intro w' hSw; subst hSw; go_simp
  try simp only [Act.put, List.getElem_toArray, List.getElem_cons_succ, List.getElem_cons_zero, List.setIfInBounds_toArray, List.set_cons_zero, List.set_cons_succ]
  refine wpAnyH_take (i := 11) (v := .int .i64 ((n : Int))) rfl (by kernel_rfl) (by kernel_rfl) (by kernel_rfl) (fun _ _ _ h => h) (Or.inl ⟨by rfl, ?_⟩) hHeld ?_
  · intro w' hSw; subst hSw; go_simp
  try simp only [Act.put, List.getElem_toArray, List.getElem_cons_succ, List.getElem_cons_zero, List.setIfInBounds_toArray, List.set_cons_zero, List.set_cons_succ]
  refine wpAnyH_ready (rs := [10]) (by kernel_rfl) (by simp) ?_
  refine allCall (f := 15) (args := #[.pointer q, .slice ak key.length ck]) rfl (by kernel_rfl) (by kernel_rfl) ?_ AllReadyH.nil
  refine Rank_any Nn 0 _ _ t key _ _ w3.drew (Tr.step HT3.out (Nn.lt _) (Nat.zero_le _) (Below.drew (Below.refl _ _))) (Sl.below HK3.out (flat_loc _) (Below.drew (Below.refl _ _)) hkh3) Hm6.out _ ?_
  rw [Hrk.out]
  refine ⟨_, rfl, rfl, ?_⟩
  try simp only [Act.put, List.getElem_toArray, List.getElem_cons_succ, List.getElem_cons_zero, List.setIfInBounds_toArray, List.set_cons_zero, List.set_cons_succ]
  refine wpAnyH_take (i := 12) (v := .bool false) rfl (by kernel_rfl) (by kernel_rfl) (by kernel_rfl) (fun _ _ _ h => h) (Or.inl ⟨by rfl, ?_⟩) hHeld ?_
  · intro w' hSw; subst hSw; go_simp
  try simp only [Act.put, List.getElem_toArray, List.getElem_cons_succ, List.getElem_cons_zero, List.setIfInBounds_toArray, List.set_cons_zero, List.set_cons_succ]
  refine wpAnyH_take (i := 13) (v := .bool false) rfl (by kernel_rfl) (by kernel_rfl) (by kernel_rfl) (fun _ _ _ h => h) (Or.inl ⟨by rfl, ?_⟩) hHeld ?_
  · intro w' hSw; subst hSw; go_simp
  try simp only [Act.put, List.getElem_toArray, List.getElem_cons_succ, List.getElem_cons_zero, List.setIfInBounds_toArray, List.set_cons_zero, List.set_cons_succ]
  refine wpAnyH_take (i := 14) (v := .bool false) rfl (by kernel_rfl) (by kernel_rfl) (by kernel_rfl) (fun _ _ _ h => h) (Or.inl ⟨by rfl, ?_⟩) hHeld ?_
  · intro w' hSw; subst hSw; go_simp
  try simp only [Act.put, List.getElem_toArray, List.getElem_cons_succ, List.getElem_cons_zero, List.setIfInBounds_toArray, List.set_cons_zero, List.set_cons_succ]
  refine wpAnyH_take (i := 15) (v := .bool false) rfl (by kernel_rfl) (by kernel_rfl) (by kernel_rfl) (fun _ _ _ h => h) (Or.inl ⟨by rfl, ?_⟩) hHeld ?_
  · intro w' hSw; subst hSw; go_simp
  try simp only [Act.put, List.getElem_toArray, List.getElem_cons_succ, List.getElem_cons_zero, List.setIfInBounds_toArray, List.set_cons_zero, List.set_cons_succ]
  refine wpAnyH_take (i := 16) (v := .bool false) rfl (by kernel_rfl) (by kernel_rfl) (by kernel_rfl) (fun _ _ _ h => h) (Or.inl ⟨by rfl, ?_⟩) hHeld ?_
  · intro w' hSw; subst hSw; go_simp
  try simp only [Act.put, List.getElem_toArray, List.getElem_cons_succ, List.getElem_cons_zero, List.setIfInBounds_toArray, List.set_cons_zero, List.set_cons_succ]
  refine wpAnyH_take (i := 17) (v := .bool false) rfl (by kernel_rfl) (by kernel_rfl) (by kernel_rfl) (fun _ _ _ h => h) (Or.inl ⟨by rfl, ?_⟩) hHeld ?_
  · intro w' hSw; subst hSw; go_simp
  try simp only [Act.put, List.getElem_toArray, List.getElem_cons_succ, List.getElem_cons_zero, List.setIfInBounds_toArray, List.set_cons_zero, List.set_cons_succ]
  refine wpAnyH_take (i := 18) (v := .bool false) rfl (by kernel_rfl) (by kernel_rfl) (by kernel_rfl) (fun _ _ _ h => h) (Or.inl ⟨by rfl, ?_⟩) hHeld ?_
  · intro w' hSw; subst hSw; go_simp
  try simp only [Act.put, List.getElem_toArray, List.getElem_cons_succ, List.getElem_cons_zero, List.setIfInBounds_toArray, List.set_cons_zero, List.set_cons_succ]
  refine wpAnyH_take (i := 19) (v := .bool false) rfl (by kernel_rfl) (by kernel_rfl) (by kernel_rfl) (fun _ _ _ h => h) (Or.inl ⟨by rfl, ?_⟩) hHeld ?_
  · intro w' hSw; subst hSw; go_simp
  try simp only [Act.put, List.getElem_toArray, List.getElem_cons_succ, List.getElem_cons_zero, List.setIfInBounds_toArray, List.set_cons_zero, List.set_cons_succ]
  refine wpAnyH_take (i := 20) (v := .bool false) rfl (by kernel_rfl) (by kernel_rfl) (by kernel_rfl) (fun _ _ _ h => h) (Or.inl ⟨by rfl, ?_⟩) hHeld ?_
  · intro w' hSw; subst hSw; go_simp
  try simp only [Act.put, List.getElem_toArray, List.getElem_cons_succ, List.getElem_cons_zero, List.setIfInBounds_toArray, List.set_cons_zero, List.set_cons_succ]
  refine wpAnyH_take (i := 21) (v := .bool false) rfl (by kernel_rfl) (by kernel_rfl) (by kernel_rfl) (fun _ _ _ h => h) (Or.inl ⟨by rfl, ?_⟩) hHeld ?_
  · intro w' hSw; subst hSw; go_simp
  try simp only [Act.put, List.getElem_toArray, List.getElem_cons_succ, List.getElem_cons_zero, List.setIfInBounds_toArray, List.set_cons_zero, List.set_cons_succ]
  refine wpAnyH_take (i := 22) (v := undef) rfl (by kernel_rfl) (by kernel_rfl) (by kernel_rfl) (fun _ _ _ h => h) (Or.inr ⟨by kernel_rfl, rfl⟩) hHeld ?_
  try simp only [Act.put, List.getElem_toArray, List.getElem_cons_succ, List.getElem_cons_zero, List.setIfInBounds_toArray, List.set_cons_zero, List.set_cons_succ]
  refine wpAnyH_take (i := 23) (v := undef) rfl (by kernel_rfl) (by kernel_rfl) (by kernel_rfl) (fun _ _ _ h => h) (Or.inr ⟨by kernel_rfl, rfl⟩) hHeld ?_
  try simp only [Act.put, List.getElem_toArray, List.getElem_cons_succ, List.getElem_cons_zero, List.setIfInBounds_toArray, List.set_cons_zero, List.set_cons_succ]
  refine wpAnyH_take (i := 24) (v := undef) rfl (by kernel_rfl) (by kernel_rfl) (by kernel_rfl) (fun _ _ _ h => h) (Or.inr ⟨by kernel_rfl, rfl⟩) hHeld ?_
  try simp only [Act.put, List.getElem_toArray, List.getElem_cons_succ, List.getElem_cons_zero, List.setIfInBounds_toArray, List.set_cons_zero, List.set_cons_succ]
  refine wpAnyH_take (i := 25) (v := undef) rfl (by kernel_rfl) (by kernel_rfl) (by kernel_rfl) (fun _ _ _ h => h) (Or.inr ⟨by kernel_rfl, rfl⟩) hHeld ?_
  try simp only [Act.put, List.getElem_toArray, List.getElem_cons_succ, List.getElem_cons_zero, List.setIfInBounds_toArray, List.set_cons_zero, List.set_cons_succ]
  refine wpAnyH_take (i := 26) (v := undef) rfl (by kernel_rfl) (by kernel_rfl) (by kernel_rfl) (fun _ _ _ h => h) (Or.inr ⟨by kernel_rfl, rfl⟩) hHeld ?_
  try simp only [Act.put, List.getElem_toArray, List.getElem_cons_succ, List.getElem_cons_zero, List.setIfInBounds_toArray, List.set_cons_zero, List.set_cons_succ]
  refine wpAnyH_take (i := 27) (v := undef) rfl (by kernel_rfl) (by kernel_rfl) (by kernel_rfl) (fun _ _ _ h => h) (Or.inr ⟨by kernel_rfl, rfl⟩) hHeld ?_
  try simp only [Act.put, List.getElem_toArray, List.getElem_cons_succ, List.getElem_cons_zero, List.setIfInBounds_toArray, List.set_cons_zero, List.set_cons_succ]
  refine wpAnyH_take (i := 28) (v := undef) rfl (by kernel_rfl) (by kernel_rfl) (by kernel_rfl) (fun _ _ _ h => h) (Or.inr ⟨by kernel_rfl, rfl⟩) hHeld ?_
  try simp only [Act.put, List.getElem_toArray, List.getElem_cons_succ, List.getElem_cons_zero, List.setIfInBounds_toArray, List.set_cons_zero, List.set_cons_succ]
  refine wpAnyH_take (i := 29) (v := undef) rfl (by kernel_rfl) (by kernel_rfl) (by kernel_rfl) (fun _ _ _ h => h) (Or.inr ⟨by kernel_rfl, rfl⟩) hHeld ?_
  try simp only [Act.put, List.getElem_toArray, List.getElem_cons_succ, List.getElem_cons_zero, List.setIfInBounds_toArray, List.set_cons_zero, List.set_cons_succ]
  refine wpAnyH_take (i := 30) (v := undef) rfl (by kernel_rfl) (by kernel_rfl) (by kernel_rfl) (fun _ _ _ h => h) (Or.inr ⟨by kernel_rfl, rfl⟩) hHeld ?_
  try simp only [Act.put, List.getElem_toArray, List.getElem_cons_succ, List.getElem_cons_zero, List.setIfInBounds_toArray, List.set_cons_zero, List.set_cons_succ]
  refine wpAnyH_take (i := 31) (v := .bool false) rfl (by kernel_rfl) (by kernel_rfl) (by kernel_rfl) (fun _ _ _ h => h) (Or.inl ⟨by rfl, ?_⟩) hHeld ?_
  · intro w' hSw; subst hSw; go_simp
  try simp only [Act.put, List.getElem_toArray, List.getElem_cons_succ, List.getElem_cons_zero, List.setIfInBounds_toArray, List.set_cons_zero, List.set_cons_succ]
  refine wpAnyH_take (i := 32) (v := .bool false) rfl (by kernel_rfl) (by kernel_rfl) (by kernel_rfl) (fun _ _ _ h => h) (Or.inl ⟨by rfl, ?_⟩) hHeld ?_
  · intro w' hSw; subst hSw; go_simp
  try simp only [Act.put, List.getElem_toArray, List.getElem_cons_succ, List.getElem_cons_zero, List.setIfInBounds_toArray, List.set_cons_zero, List.set_cons_succ]
  refine wpAnyH_take (i := 33) (v := .bool false) rfl (by kernel_rfl) (by kernel_rfl) (by kernel_rfl) (fun _ _ _ h => h) (Or.inl ⟨by rfl, ?_⟩) hHeld ?_
  · intro w' hSw; subst hSw; go_simp
  try simp only [Act.put, List.getElem_toArray, List.getElem_cons_succ, List.getElem_cons_zero, List.setIfInBounds_toArray, List.set_cons_zero, List.set_cons_succ]
  refine wpAnyH_take (i := 34) (v := .bool false) rfl (by kernel_rfl) (by kernel_rfl) (by kernel_rfl) (fun _ _ _ h => h) (Or.inl ⟨by rfl, ?_⟩) hHeld ?_
  · intro w' hSw; subst hSw; go_simp
  try simp only [Act.put, List.getElem_toArray, List.getElem_cons_succ, List.getElem_cons_zero, List.setIfInBounds_toArray, List.set_cons_zero, List.set_cons_succ]
  refine wpAnyH_take (i := 35) (v := .bool true) rfl (by kernel_rfl) (by kernel_rfl) (by kernel_rfl) (fun _ _ _ h => h) (Or.inl ⟨by rfl, ?_⟩) hHeld ?_
  · intro w' hSw; subst hSw; go_simp
  try simp only [Act.put, List.getElem_toArray, List.getElem_cons_succ, List.getElem_cons_zero, List.setIfInBounds_toArray, List.set_cons_zero, List.set_cons_succ]
  refine wpAnyH_take (i := 36) (v := .bool true) rfl (by kernel_rfl) (by kernel_rfl) (by kernel_rfl) (fun _ _ _ h => h) (Or.inl ⟨by rfl, ?_⟩) hHeld ?_
  · intro w' hSw; subst hSw; go_simp
  try simp only [Act.put, List.getElem_toArray, List.getElem_cons_succ, List.getElem_cons_zero, List.setIfInBounds_toArray, List.set_cons_zero, List.set_cons_succ]
  refine wpAnyH_take (i := 37) (v := .slice a3 0 c3) rfl (by kernel_rfl) (by kernel_rfl) (by kernel_rfl) (fun _ _ _ h => h) (Or.inl ⟨by rfl, ?_⟩) hHeld ?_
  · intro w' hSw; subst hSw; go_simp
  try simp only [Act.put, List.getElem_toArray, List.getElem_cons_succ, List.getElem_cons_zero, List.setIfInBounds_toArray, List.set_cons_zero, List.set_cons_succ]
  refine wpAnyH_take (i := 38) (v := .int .i64 0) rfl (by kernel_rfl) (by kernel_rfl) (by kernel_rfl) (fun _ _ _ h => h) (Or.inl ⟨by rfl, ?_⟩) hHeld ?_
  · intro w' hSw; subst hSw; go_simp
  try simp only [Act.put, List.getElem_toArray, List.getElem_cons_succ, List.getElem_cons_zero, List.setIfInBounds_toArray, List.set_cons_zero, List.set_cons_succ]
  refine wpAnyH_take (i := 39) (v := .bool false) rfl (by kernel_rfl) (by kernel_rfl) (by kernel_rfl) (fun _ _ _ h => h) (Or.inl ⟨by rfl, ?_⟩) hHeld ?_
  · intro w' hSw; subst hSw; go_simp
  try simp only [Act.put, List.getElem_toArray, List.getElem_cons_succ, List.getElem_cons_zero, List.setIfInBounds_toArray, List.set_cons_zero, List.set_cons_succ]
  refine wpAnyH_take (i := 40) (v := .bool false) rfl (by kernel_rfl) (by kernel_rfl) (by kernel_rfl) (fun _ _ _ h => h) (Or.inl ⟨by rfl, ?_⟩) hHeld ?_
  · intro w' hSw; subst hSw; go_simp
  try simp only [Act.put, List.getElem_toArray, List.getElem_cons_succ, List.getElem_cons_zero, List.setIfInBounds_toArray, List.set_cons_zero, List.set_cons_succ]
  refine wpAnyH_take (i := 41) (v := .bool false) rfl (by kernel_rfl) (by kernel_rfl) (by kernel_rfl) (fun _ _ _ h => h) (Or.inl ⟨by rfl, ?_⟩) hHeld ?_
  · intro w' hSw; subst hSw; go_simp
  try simp only [Act.put, List.getElem_toArray, List.getElem_cons_succ, List.getElem_cons_zero, List.setIfInBounds_toArray, List.set_cons_zero, List.set_cons_succ]
  refine wpAnyH_done (by kernel_rfl) ?_ _
  clear hHeld
  clear yc0 yc2
  clear HU3 HT3 HK3 hkh3
  have hdr : Below w3.heap.size w3 w3.drew := Below.drew (Below.refl _ _)
  replace HB := Lib.hid (HB.out.trans (hdr.mono HB.out.size))
  generalize w3.drew = wd at *
  clear hdr
  have Hwd := Lib.hid HB.out.size
  have yc2 := HC2.out _ HB.out
  go_wp2_with fail
  refine Seek_v l t key q _ klo khi wd Hg.out Hl.out Hn3.out (HT.out _ HB.out) (HK.out _ HB.out) (Nat.le_trans Hkh.out HB.out.size) n En.out _ (fun wa0 x1 x2 hB o1 o2 ap => ?_)
  clear yc2
  obtain ⟨a1, s1, rfl⟩ := Own.slice o1
  obtain ⟨a2, s2, rfl⟩ := Own.slice o2
  have hsz := hB.size
  replace HB := Lib.hid (HB.out.trans (hB.mono HB.out.size))
  have H0a := Lib.hid (show w0.heap.size ≤ wa0.heap.size from HB.out.size)
  have hal := alloc_below wa0 (.cells #[(.slice a1 (atI l (n : Int)).1.1.length s1), (.slice a2 (atI l (n : Int)).1.2.length s2)] 43)
  have Hb12 := Lib.hid (Blk.new wa0 [(.slice a1 (atI l (n : Int)).1.1.length s1), (.slice a2 (atI l (n : Int)).1.2.length s2)] 43 rfl)
  have nea := Lib.hid (fun q (e : Value.ownBlock (.slice a1 (atI l (n : Int)).1.1.length s1) = some q) => (o1.lt q e).2)
  have neb := Lib.hid (fun q (e : Value.ownBlock (.slice a2 (atI l (n : Int)).1.2.length s2) = some q) => (o2.lt q e).2)
  replace o1 := Own.kept o1 hal
  replace o2 := Own.kept o2 hal
  replace HB := Lib.hid (HB.out.trans (hal.mono HB.out.size))
  have hsx := Nat.le_trans hsz hal.size
  go_upto_region 8 with fail
  generalize wa0.alloc (.cells #[(.slice a1 (atI l (n : Int)).1.1.length s1), (.slice a2 (atI l (n : Int)).1.2.length s2)] 43) = wx at *
  clear hal hsz
  have yc0 := HC0.out _ HB.out
  go_wp2_with fail
  refine AtRef_u ulo uhi l _ (n : Int) wx (HU.out _ HB.out) (Nat.le_trans Huh.out HB.out.size) Hl4.out _ (fun wb0 hB => ?_)
  clear yc0
  replace o1 := Own.kept o1 hB
  replace o2 := Own.kept o2 hB
  replace hsx := Nat.le_trans hsx hB.size
  replace Hb12 := Lib.hid (Hb12.out.below hB Hb12.out.lt)
  replace HB := Lib.hid (HB.out.trans (hB.mono HB.out.size))
  have H1213 := Lib.hid (show wa0.heap.size < wb0.heap.size from Hb12.out.lt)
  have hal := alloc_below wb0 (.cells #[(.string ⟨(atI l (n : Int)).1.1.toArray⟩), (.string ⟨(atI l (n : Int)).1.2.toArray⟩)] 82)
  have Hb13 := Lib.hid (Blk.new wb0 [(.string ⟨(atI l (n : Int)).1.1.toArray⟩), (.string ⟨(atI l (n : Int)).1.2.toArray⟩)] 82 rfl)
  replace o1 := Own.kept o1 hal
  replace o2 := Own.kept o2 hal
  replace hsx := Nat.le_trans hsx hal.size
  replace Hb12 := Lib.hid (Hb12.out.below hal Hb12.out.lt)
  replace HB := Lib.hid (HB.out.trans (hal.mono HB.out.size))
  go_upto_region 9 with fail
  generalize wb0.alloc (.cells #[(.string ⟨(atI l (n : Int)).1.1.toArray⟩), (.string ⟨(atI l (n : Int)).1.2.toArray⟩)] 82) = wy at *
  clear hal hB
  have m12 := Hb12.out.cells.c2
  have m13 := Hb13.out.cells.c2
  go_wp2_with fail
  refine one_any wd.heap.size (.slice a1 (atI l (n : Int)).1.1.length s1) (.slice a2 (atI l (n : Int)).1.2.length s2) (atI l (n : Int)).1 (atI l (n : Int)).2 wy o1 o2 ap hsx _ (fun wz0 hO => ?_)
  have hAB : ∀ q, Value.ownBlock (.slice a1 (atI l (n : Int)).1.1.length s1) = some q ∨ Value.ownBlock (.slice a2 (atI l (n : Int)).1.2.length s2) = some q → wd.heap.size ≤ q ∧ q < wa0.heap.size := fun q e => e.elim (fun e => ⟨(o1.lt q e).1, nea.out q e⟩) (fun e => ⟨(o2.lt q e).1, neb.out q e⟩)
  have hq := H1213.out
  have hwd := Hwd.out
  replace HB := Lib.hid (HB.out.trans (hO.below (by have := HB.out.size; omega) (fun q e => Nat.le_trans hwd (hAB q e).1)))
  replace Hb12 := Lib.hid (hO.blk Hb12.out (fun e => by have := (hAB _ e).2; omega))
  replace Hb13 := Lib.hid (hO.blk Hb13.out (fun e => by have := (hAB _ e).2; omega))
  clear nea neb
  have Hlt13 := Lib.hid (show wb0.heap.size < wz0.heap.size from Hb13.out.lt)
  clear hAB hq hwd hO m12 m13 o1 o2 ap hsx
  have yc2 := HC2.out _ HB.out
  go_wp2_with fail
  refine Back_v l t key q _ klo khi wz0 Hg.out Hl.out Hn3.out (HT.out _ HB.out) (HK.out _ HB.out) (Nat.le_trans Hkh.out HB.out.size) n En.out _ (fun wa1 x1 x2 hB o1 o2 ap => ?_)
  clear yc2
  obtain ⟨a1, s1, rfl⟩ := Own.slice o1
  obtain ⟨a2, s2, rfl⟩ := Own.slice o2
  have hsz := hB.size
  replace Hb12 := Lib.hid (Hb12.out.below hB Hb12.out.lt)
  replace Hb13 := Lib.hid (Hb13.out.below hB Hb13.out.lt)
  replace HB := Lib.hid (HB.out.trans (hB.mono HB.out.size))
  have y12 := Hb12.out.cells.c2
  have f0 := Hb12.out.free 0
  have f1 := Hb12.out.free 1
  have hset : ∀ k, k ≠ wa0.heap.size → ((wa1.setCell ⟨wa0.heap.size, 0, none⟩ (.slice a1 (atI l ((n : Int) - 1)).1.1.length s1)).setCell ⟨wa0.heap.size, 1, none⟩ (.slice a2 (atI l ((n : Int) - 1)).1.2.length s2)).heap[k]? = wa1.heap[k]? := fun k hk => (Below.heap_setCell _ _ _ _ hk).trans (Below.heap_setCell _ _ _ _ hk)
  have gt1 := Lib.hid (fun q (e : Value.ownBlock (.slice a1 (atI l ((n : Int) - 1)).1.1.length s1) = some q) => show wb0.heap.size < q by have := (o1.lt q e).1; have := Hlt13.out; omega)
  have gt2 := Lib.hid (fun q (e : Value.ownBlock (.slice a2 (atI l ((n : Int) - 1)).1.2.length s2) = some q) => show wb0.heap.size < q by have := (o2.lt q e).1; have := Hlt13.out; omega)
  have hq := H1213.out
  replace o1 := Own.same o1 (fun q e => hset q (by have := gt1.out q e; omega))
  replace o2 := Own.same o2 (fun q e => hset q (by have := gt2.out q e; omega))
  replace Hb12 := Lib.hid ((Hb12.out.set 0 (.slice a1 (atI l ((n : Int) - 1)).1.1.length s1)).set 1 (.slice a2 (atI l ((n : Int) - 1)).1.2.length s2))
  replace Hb13 := Lib.hid (show Blk ((wa1.setCell ⟨wa0.heap.size, 0, none⟩ (.slice a1 (atI l ((n : Int) - 1)).1.1.length s1)).setCell ⟨wa0.heap.size, 1, none⟩ (.slice a2 (atI l ((n : Int) - 1)).1.2.length s2)) wb0.heap.size _ 82 from (hset _ (by omega)).trans Hb13.out)
  replace HB := Lib.hid ((HB.out.setCell (p := ⟨wa0.heap.size, 0, none⟩) H0a.out (.slice a1 (atI l ((n : Int) - 1)).1.1.length s1)).setCell (p := ⟨wa0.heap.size, 1, none⟩) H0a.out (.slice a2 (atI l ((n : Int) - 1)).1.2.length s2))
  have hsx : wz0.heap.size ≤ ((wa1.setCell ⟨wa0.heap.size, 0, none⟩ (.slice a1 (atI l ((n : Int) - 1)).1.1.length s1)).setCell ⟨wa0.heap.size, 1, none⟩ (.slice a2 (atI l ((n : Int) - 1)).1.2.length s2)).heap.size := by simpa [World.setCell] using hsz
  clear hset hq
  go_upto_region 12 with fail
  generalize (wa1.setCell ⟨wa0.heap.size, 0, none⟩ (.slice a1 (atI l ((n : Int) - 1)).1.1.length s1)).setCell ⟨wa0.heap.size, 1, none⟩ (.slice a2 (atI l ((n : Int) - 1)).1.2.length s2) = wx at *
  clear y12 f0 f1 hsz hB
  have yc0 := HC0.out _ HB.out
  go_wp2_with fail
  refine AtRef_u ulo uhi l _ ((n : Int) - 1) wx (HU.out _ HB.out) (Nat.le_trans Huh.out HB.out.size) Hl4.out _ (fun wb1 hB => ?_)
  clear yc0
  replace o1 := Own.kept o1 hB
  replace o2 := Own.kept o2 hB
  replace hsx := Nat.le_trans hsx hB.size
  replace Hb12 := Lib.hid (Hb12.out.below hB Hb12.out.lt)
  replace Hb13 := Lib.hid (Hb13.out.below hB Hb13.out.lt)
  replace HB := Lib.hid (HB.out.trans (hB.mono HB.out.size))
  have y13 := Hb13.out.cells.c2
  have f0 := Hb13.out.free 0
  have f1 := Hb13.out.free 1
  have hset : ∀ k, k ≠ wb0.heap.size → ((wb1.setCell ⟨wb0.heap.size, 0, none⟩ (.string ⟨(atI l ((n : Int) - 1)).1.1.toArray⟩)).setCell ⟨wb0.heap.size, 1, none⟩ (.string ⟨(atI l ((n : Int) - 1)).1.2.toArray⟩)).heap[k]? = wb1.heap[k]? := fun k hk => (Below.heap_setCell _ _ _ _ hk).trans (Below.heap_setCell _ _ _ _ hk)
  have hq := H1213.out
  have hq2 := H0a.out
  replace o1 := Own.same o1 (fun q e => hset q (by have := gt1.out q e; omega))
  replace o2 := Own.same o2 (fun q e => hset q (by have := gt2.out q e; omega))
  replace Hb13 := Lib.hid ((Hb13.out.set 0 (.string ⟨(atI l ((n : Int) - 1)).1.1.toArray⟩)).set 1 (.string ⟨(atI l ((n : Int) - 1)).1.2.toArray⟩))
  replace Hb12 := Lib.hid (show Blk ((wb1.setCell ⟨wb0.heap.size, 0, none⟩ (.string ⟨(atI l ((n : Int) - 1)).1.1.toArray⟩)).setCell ⟨wb0.heap.size, 1, none⟩ (.string ⟨(atI l ((n : Int) - 1)).1.2.toArray⟩)) wa0.heap.size _ 43 from (hset _ (by omega)).trans Hb12.out)
  replace HB := Lib.hid ((HB.out.setCell (p := ⟨wb0.heap.size, 0, none⟩) (by simp only; omega) (.string ⟨(atI l ((n : Int) - 1)).1.1.toArray⟩)).setCell (p := ⟨wb0.heap.size, 1, none⟩) (by simp only; omega) (.string ⟨(atI l ((n : Int) - 1)).1.2.toArray⟩))
  replace hsx : wz0.heap.size ≤ ((wb1.setCell ⟨wb0.heap.size, 0, none⟩ (.string ⟨(atI l ((n : Int) - 1)).1.1.toArray⟩)).setCell ⟨wb0.heap.size, 1, none⟩ (.string ⟨(atI l ((n : Int) - 1)).1.2.toArray⟩)).heap.size := by simpa [World.setCell] using hsx
  clear hset hq hq2
  go_upto_region 13 with fail
  generalize (wb1.setCell ⟨wb0.heap.size, 0, none⟩ (.string ⟨(atI l ((n : Int) - 1)).1.1.toArray⟩)).setCell ⟨wb0.heap.size, 1, none⟩ (.string ⟨(atI l ((n : Int) - 1)).1.2.toArray⟩) = wy at *
  clear y13 f0 f1 hB
  have m12 := Hb12.out.cells.c2
  have m13 := Hb13.out.cells.c2
  go_wp2_with fail
  refine one_any wz0.heap.size (.slice a1 (atI l ((n : Int) - 1)).1.1.length s1) (.slice a2 (atI l ((n : Int) - 1)).1.2.length s2) (atI l ((n : Int) - 1)).1 (atI l ((n : Int) - 1)).2 wy o1 o2 ap hsx _ (fun wz1 hO => ?_)
  have hAB : ∀ q, Value.ownBlock (.slice a1 (atI l ((n : Int) - 1)).1.1.length s1) = some q ∨ Value.ownBlock (.slice a2 (atI l ((n : Int) - 1)).1.2.length s2) = some q → wb0.heap.size < q := fun q e => e.elim (gt1.out q) (gt2.out q)
  have hq := H1213.out
  have hwd := H0a.out
  replace HB := Lib.hid (HB.out.trans (hO.below (by have := HB.out.size; omega) (fun q e => by have := hAB q e; omega)))
  replace Hb12 := Lib.hid (hO.blk Hb12.out (fun e => by have := hAB _ e; omega))
  replace Hb13 := Lib.hid (hO.blk Hb13.out (fun e => by have := hAB _ e; omega))
  clear gt1 gt2
  replace Hlt13 := Lib.hid (show wb0.heap.size < wz1.heap.size from Hb13.out.lt)
  clear hAB hq hwd hO m12 m13 o1 o2 ap hsx hB
  have Hz1 := Lib.hid HB.out.size
  have Hz12 := Lib.hid Hb12.out.lt
  have Hz13 := Lib.hid Hb13.out.lt
  have yc5 := HC5.out _ HB.out
  go_wp2_with fail
  refine At_u l t q m wz1 Hg.out Hl.out Hn3.out (HT.out _ HB.out) _ (fun wa2 x1 x2 hB o1 o2 ap => ?_)
  clear yc5
  obtain ⟨a1, s1, rfl⟩ := Own.slice o1
  obtain ⟨a2, s2, rfl⟩ := Own.slice o2
  have hsz := hB.size
  replace Hb12 := Lib.hid (Hb12.out.below hB Hb12.out.lt)
  replace Hb13 := Lib.hid (Hb13.out.below hB Hb13.out.lt)
  replace HB := Lib.hid (HB.out.trans (hB.mono HB.out.size))
  have y12 := Hb12.out.cells.c2
  have f0 := Hb12.out.free 0
  have f1 := Hb12.out.free 1
  have hset : ∀ k, k ≠ wa0.heap.size → ((wa2.setCell ⟨wa0.heap.size, 0, none⟩ (.slice a1 (atI l m).1.1.length s1)).setCell ⟨wa0.heap.size, 1, none⟩ (.slice a2 (atI l m).1.2.length s2)).heap[k]? = wa2.heap[k]? := fun k hk => (Below.heap_setCell _ _ _ _ hk).trans (Below.heap_setCell _ _ _ _ hk)
  have gt1 := Lib.hid (fun q (e : Value.ownBlock (.slice a1 (atI l m).1.1.length s1) = some q) => show wb0.heap.size < q by have := (o1.lt q e).1; have := Hlt13.out; omega)
  have gt2 := Lib.hid (fun q (e : Value.ownBlock (.slice a2 (atI l m).1.2.length s2) = some q) => show wb0.heap.size < q by have := (o2.lt q e).1; have := Hlt13.out; omega)
  have hq := H1213.out
  replace o1 := Own.same o1 (fun q e => hset q (by have := gt1.out q e; omega))
  replace o2 := Own.same o2 (fun q e => hset q (by have := gt2.out q e; omega))
  replace Hb12 := Lib.hid ((Hb12.out.set 0 (.slice a1 (atI l m).1.1.length s1)).set 1 (.slice a2 (atI l m).1.2.length s2))
  replace Hb13 := Lib.hid (show Blk ((wa2.setCell ⟨wa0.heap.size, 0, none⟩ (.slice a1 (atI l m).1.1.length s1)).setCell ⟨wa0.heap.size, 1, none⟩ (.slice a2 (atI l m).1.2.length s2)) wb0.heap.size _ 82 from (hset _ (by omega)).trans Hb13.out)
  replace HB := Lib.hid ((HB.out.setCell (p := ⟨wa0.heap.size, 0, none⟩) H0a.out (.slice a1 (atI l m).1.1.length s1)).setCell (p := ⟨wa0.heap.size, 1, none⟩) H0a.out (.slice a2 (atI l m).1.2.length s2))
  have hsx : wz1.heap.size ≤ ((wa2.setCell ⟨wa0.heap.size, 0, none⟩ (.slice a1 (atI l m).1.1.length s1)).setCell ⟨wa0.heap.size, 1, none⟩ (.slice a2 (atI l m).1.2.length s2)).heap.size := by simpa [World.setCell] using hsz
  clear hset hq
  go_upto_region 16 with fail
  generalize (wa2.setCell ⟨wa0.heap.size, 0, none⟩ (.slice a1 (atI l m).1.1.length s1)).setCell ⟨wa0.heap.size, 1, none⟩ (.slice a2 (atI l m).1.2.length s2) = wx at *
  clear y12 f0 f1 hsz hB
  have yc0 := HC0.out _ HB.out
  have yc5 := HC5.out _ HB.out
  go_wp2_with fail
  refine AtRef_u ulo uhi l _ m wx (HU.out _ HB.out) (Nat.le_trans Huh.out HB.out.size) Hl4.out _ (fun wb2 hB => ?_)
  clear yc0 yc5
  replace o1 := Own.kept o1 hB
  replace o2 := Own.kept o2 hB
  replace hsx := Nat.le_trans hsx hB.size
  replace Hb12 := Lib.hid (Hb12.out.below hB Hb12.out.lt)
  replace Hb13 := Lib.hid (Hb13.out.below hB Hb13.out.lt)
  replace HB := Lib.hid (HB.out.trans (hB.mono HB.out.size))
  have y13 := Hb13.out.cells.c2
  have f0 := Hb13.out.free 0
  have f1 := Hb13.out.free 1
  have hset : ∀ k, k ≠ wb0.heap.size → ((wb2.setCell ⟨wb0.heap.size, 0, none⟩ (.string ⟨(atI l m).1.1.toArray⟩)).setCell ⟨wb0.heap.size, 1, none⟩ (.string ⟨(atI l m).1.2.toArray⟩)).heap[k]? = wb2.heap[k]? := fun k hk => (Below.heap_setCell _ _ _ _ hk).trans (Below.heap_setCell _ _ _ _ hk)
  have hq := H1213.out
  have hq2 := H0a.out
  replace o1 := Own.same o1 (fun q e => hset q (by have := gt1.out q e; omega))
  replace o2 := Own.same o2 (fun q e => hset q (by have := gt2.out q e; omega))
  replace Hb13 := Lib.hid ((Hb13.out.set 0 (.string ⟨(atI l m).1.1.toArray⟩)).set 1 (.string ⟨(atI l m).1.2.toArray⟩))
  replace Hb12 := Lib.hid (show Blk ((wb2.setCell ⟨wb0.heap.size, 0, none⟩ (.string ⟨(atI l m).1.1.toArray⟩)).setCell ⟨wb0.heap.size, 1, none⟩ (.string ⟨(atI l m).1.2.toArray⟩)) wa0.heap.size _ 43 from (hset _ (by omega)).trans Hb12.out)
  replace HB := Lib.hid ((HB.out.setCell (p := ⟨wb0.heap.size, 0, none⟩) (by simp only; omega) (.string ⟨(atI l m).1.1.toArray⟩)).setCell (p := ⟨wb0.heap.size, 1, none⟩) (by simp only; omega) (.string ⟨(atI l m).1.2.toArray⟩))
  replace hsx : wz1.heap.size ≤ ((wb2.setCell ⟨wb0.heap.size, 0, none⟩ (.string ⟨(atI l m).1.1.toArray⟩)).setCell ⟨wb0.heap.size, 1, none⟩ (.string ⟨(atI l m).1.2.toArray⟩)).heap.size := by simpa [World.setCell] using hsx
  clear hset hq hq2
  go_upto_region 17 with fail
  generalize (wb2.setCell ⟨wb0.heap.size, 0, none⟩ (.string ⟨(atI l m).1.1.toArray⟩)).setCell ⟨wb0.heap.size, 1, none⟩ (.string ⟨(atI l m).1.2.toArray⟩) = wy at *
  clear y13 f0 f1 hB
  refine wp_region_held_drew (S := fun w' => Below wz1.heap.size wy w') (by kernel_rfl) (Below.drew (Below.refl _ _)) (fun hHeld => ?_)
  refine wpAnyH_take (i := 0) (v := .agg #[.slice a1 (atI l m).1.1.length s1, .slice a2 (atI l m).1.2.length s2]) rfl (by kernel_rfl) (by kernel_rfl) (by kernel_rfl) (fun _ _ _ h => h) (Or.inl ⟨by rfl, ?_⟩) hHeld ?_
  · intro w' hSw; obtain ⟨k0, k1⟩ := (Hb12.out.below hSw Hz12.out).cells.c2; go_simp
  try simp only [Act.put, List.getElem_toArray, List.getElem_cons_succ, List.getElem_cons_zero, List.setIfInBounds_toArray, List.set_cons_zero, List.set_cons_succ]
  refine wpAnyH_take (i := 1) (v := .bool (atI l m).2) rfl (by kernel_rfl) (by kernel_rfl) (by kernel_rfl) (fun _ _ _ h => h) (Or.inl ⟨by rfl, ?_⟩) hHeld ?_
  · intro w' hSw; go_simp
  try simp only [Act.put, List.getElem_toArray, List.getElem_cons_succ, List.getElem_cons_zero, List.setIfInBounds_toArray, List.set_cons_zero, List.set_cons_succ]
  refine wpAnyH_take (i := 2) (v := .agg #[.string ⟨(atI l m).1.1.toArray⟩, .string ⟨(atI l m).1.2.toArray⟩]) rfl (by kernel_rfl) (by kernel_rfl) (by kernel_rfl) (fun _ _ _ h => h) (Or.inl ⟨by rfl, ?_⟩) hHeld ?_
  · intro w' hSw; obtain ⟨k0, k1⟩ := (Hb13.out.below hSw Hz13.out).cells.c2; go_simp
  try simp only [Act.put, List.getElem_toArray, List.getElem_cons_succ, List.getElem_cons_zero, List.setIfInBounds_toArray, List.set_cons_zero, List.set_cons_succ]
  refine wpAnyH_take (i := 3) (v := .bool (atI l m).2) rfl (by kernel_rfl) (by kernel_rfl) (by kernel_rfl) (fun _ _ _ h => h) (Or.inl ⟨by rfl, ?_⟩) hHeld ?_
  · intro w' hSw; go_simp
  try simp only [Act.put, List.getElem_toArray, List.getElem_cons_succ, List.getElem_cons_zero, List.setIfInBounds_toArray, List.set_cons_zero, List.set_cons_succ]
  refine wpAnyH_ready (rs := [4]) (by kernel_rfl) (by simp) ?_
  refine allCall (f := 41) (args := #[.agg #[.slice a1 (atI l m).1.1.length s1, .slice a2 (atI l m).1.2.length s2], .bool (atI l m).2, .agg #[.string ⟨(atI l m).1.1.toArray⟩, .string ⟨(atI l m).1.2.toArray⟩], .bool (atI l m).2]) rfl (by kernel_rfl) (by kernel_rfl) ?_ AllReadyH.nil
  refine one_any wz1.heap.size (.slice a1 (atI l m).1.1.length s1) (.slice a2 (atI l m).1.2.length s2) (atI l m).1 (atI l m).2 wy.drew (o1.same (fun _ _ => rfl)) (o2.same (fun _ _ => rfl)) ap hsx _ (fun wo hO => ?_)
  have hH2 : Below wz1.heap.size wy wo := hHeld.trans (hO.below hsx (fun k e => e.elim (fun e => (o1.lt k e).1) (fun e => (o2.lt k e).1)))
  refine ⟨_, rfl, hH2, ?_⟩
  clear hHeld hO
  have hHeld := hH2
  clear hH2
  try simp only [Act.put, List.getElem_toArray, List.getElem_cons_succ, List.getElem_cons_zero, List.setIfInBounds_toArray, List.set_cons_zero, List.set_cons_succ]
  refine wpAnyH_take (i := 5) (v := .bool true) rfl (by kernel_rfl) (by kernel_rfl) (by kernel_rfl) (fun _ _ _ h => h) (Or.inl ⟨by rfl, ?_⟩) hHeld ?_
  · intro w' hSw; go_simp
  try simp only [Act.put, List.getElem_toArray, List.getElem_cons_succ, List.getElem_cons_zero, List.setIfInBounds_toArray, List.set_cons_zero, List.set_cons_succ]
  refine wpAnyH_take (i := 6) (v := .pointer q) rfl (by kernel_rfl) (by kernel_rfl) (by kernel_rfl) (fun _ _ _ h => h) (Or.inl ⟨by rfl, ?_⟩) hHeld ?_
  · intro w' hSw; go_simp
  try simp only [Act.put, List.getElem_toArray, List.getElem_cons_succ, List.getElem_cons_zero, List.setIfInBounds_toArray, List.set_cons_zero, List.set_cons_succ]
  refine wpAnyH_take (i := 7) (v := .pointer (some ⟨(w.heap.size + 1), 2, none⟩)) rfl (by kernel_rfl) (by kernel_rfl) (by kernel_rfl) (fun _ _ _ h => h) (Or.inl ⟨by rfl, ?_⟩) hHeld ?_
  · intro w' hSw; go_simp
  try simp only [Act.put, List.getElem_toArray, List.getElem_cons_succ, List.getElem_cons_zero, List.setIfInBounds_toArray, List.set_cons_zero, List.set_cons_succ]
  refine wpAnyH_take (i := 8) (v := .slice ak key.length ck) rfl (by kernel_rfl) (by kernel_rfl) (by kernel_rfl) (fun _ _ _ h => h) (Or.inl ⟨by rfl, ?_⟩) hHeld ?_
  · intro w' hSw; have kx := HC2.out w' (HB.out.trans (hSw.mono Hz1.out)); go_simp
  try simp only [Act.put, List.getElem_toArray, List.getElem_cons_succ, List.getElem_cons_zero, List.setIfInBounds_toArray, List.set_cons_zero, List.set_cons_succ]
  refine wpAnyH_take (i := 9) (v := .pointer (some ⟨(w.heap.size + 1), 4, none⟩)) rfl (by kernel_rfl) (by kernel_rfl) (by kernel_rfl) (fun _ _ _ h => h) (Or.inl ⟨by rfl, ?_⟩) hHeld ?_
  · intro w' hSw; go_simp
  try simp only [Act.put, List.getElem_toArray, List.getElem_cons_succ, List.getElem_cons_zero, List.setIfInBounds_toArray, List.set_cons_zero, List.set_cons_succ]
  refine wpAnyH_take (i := 10) (v := .slice at_ to.length ct) rfl (by kernel_rfl) (by kernel_rfl) (by kernel_rfl) (fun _ _ _ h => h) (Or.inl ⟨by rfl, ?_⟩) hHeld ?_
  · intro w' hSw; have kx := HC4.out w' (HB.out.trans (hSw.mono Hz1.out)); go_simp
  try simp only [Act.put, List.getElem_toArray, List.getElem_cons_succ, List.getElem_cons_zero, List.setIfInBounds_toArray, List.set_cons_zero, List.set_cons_succ]
  refine wpAnyH_take (i := 11) (v := .pointer (some ⟨(w.heap.size + 1), 5, none⟩)) rfl (by kernel_rfl) (by kernel_rfl) (by kernel_rfl) (fun _ _ _ h => h) (Or.inl ⟨by rfl, ?_⟩) hHeld ?_
  · intro w' hSw; go_simp
  try simp only [Act.put, List.getElem_toArray, List.getElem_cons_succ, List.getElem_cons_zero, List.setIfInBounds_toArray, List.set_cons_zero, List.set_cons_succ]
  refine wpAnyH_take (i := 12) (v := .int .i64 m) rfl (by kernel_rfl) (by kernel_rfl) (by kernel_rfl) (fun _ _ _ h => h) (Or.inl ⟨by rfl, ?_⟩) hHeld ?_
  · intro w' hSw; have kx := HC5.out w' (HB.out.trans (hSw.mono Hz1.out)); go_simp
  try simp only [Act.put, List.getElem_toArray, List.getElem_cons_succ, List.getElem_cons_zero, List.setIfInBounds_toArray, List.set_cons_zero, List.set_cons_succ]
  refine wpAnyH_take (i := 14) (v := .agg #[.slice au l.length cu]) rfl (by kernel_rfl) (by kernel_rfl) (by kernel_rfl) (fun _ _ _ h => h) (Or.inl ⟨by rfl, ?_⟩) hHeld ?_
  · intro w' hSw; have kx := HC0.out w' (HB.out.trans (hSw.mono Hz1.out)); go_simp
  try simp only [Act.put, List.getElem_toArray, List.getElem_cons_succ, List.getElem_cons_zero, List.setIfInBounds_toArray, List.set_cons_zero, List.set_cons_succ]
  refine wpAnyH_take (i := 15) (v := .string ⟨key.toArray⟩) rfl (by kernel_rfl) (by kernel_rfl) (by kernel_rfl) (fun _ _ _ h => h) (Or.inl ⟨by rfl, ?_⟩) hHeld ?_
  · intro w' hSw; go_simp
  try simp only [Act.put, List.getElem_toArray, List.getElem_cons_succ, List.getElem_cons_zero, List.setIfInBounds_toArray, List.set_cons_zero, List.set_cons_succ]
  refine wpAnyH_take (i := 16) (v := .pointer (some ⟨(w.heap.size + 1), 4, none⟩)) rfl (by kernel_rfl) (by kernel_rfl) (by kernel_rfl) (fun _ _ _ h => h) (Or.inl ⟨by rfl, ?_⟩) hHeld ?_
  · intro w' hSw; go_simp
  try simp only [Act.put, List.getElem_toArray, List.getElem_cons_succ, List.getElem_cons_zero, List.setIfInBounds_toArray, List.set_cons_zero, List.set_cons_succ]
  refine wpAnyH_take (i := 17) (v := .slice at_ to.length ct) rfl (by kernel_rfl) (by kernel_rfl) (by kernel_rfl) (fun _ _ _ h => h) (Or.inl ⟨by rfl, ?_⟩) hHeld ?_
  · intro w' hSw; have kx := HC4.out w' (HB.out.trans (hSw.mono Hz1.out)); go_simp
  try simp only [Act.put, List.getElem_toArray, List.getElem_cons_succ, List.getElem_cons_zero, List.setIfInBounds_toArray, List.set_cons_zero, List.set_cons_succ]
  refine wpAnyH_take (i := 18) (v := .string ⟨to.toArray⟩) rfl (by kernel_rfl) (by kernel_rfl) (by kernel_rfl) (fun _ _ _ h => h) (Or.inl ⟨by rfl, ?_⟩) hHeld ?_
  · intro w' hSw; have kx := str (HTo.out w' (HB.out.trans (hSw.mono Hz1.out))); go_simp
  try simp only [Act.put, List.getElem_toArray, List.getElem_cons_succ, List.getElem_cons_zero, List.setIfInBounds_toArray, List.set_cons_zero, List.set_cons_succ]
  refine wpAnyH_take (i := 19) (v := .pointer (some ⟨(w.heap.size + 1), 5, none⟩)) rfl (by kernel_rfl) (by kernel_rfl) (by kernel_rfl) (fun _ _ _ h => h) (Or.inl ⟨by rfl, ?_⟩) hHeld ?_
  · intro w' hSw; go_simp
  try simp only [Act.put, List.getElem_toArray, List.getElem_cons_succ, List.getElem_cons_zero, List.setIfInBounds_toArray, List.set_cons_zero, List.set_cons_succ]
  refine wpAnyH_take (i := 20) (v := .int .i64 m) rfl (by kernel_rfl) (by kernel_rfl) (by kernel_rfl) (fun _ _ _ h => h) (Or.inl ⟨by rfl, ?_⟩) hHeld ?_
  · intro w' hSw; have kx := HC5.out w' (HB.out.trans (hSw.mono Hz1.out)); go_simp
  try simp only [Act.put, List.getElem_toArray, List.getElem_cons_succ, List.getElem_cons_zero, List.setIfInBounds_toArray, List.set_cons_zero, List.set_cons_succ]
  refine wpAnyH_ready (rs := [13]) (by kernel_rfl) (by simp) ?_
  refine allCall (f := 14) (args := #[.pointer q, .slice ak key.length ck, .slice at_ to.length ct, .int .i64 m]) rfl (by kernel_rfl) (by kernel_rfl) ?_ AllReadyH.nil
  have HBo := HB.out.trans (hHeld.mono Hz1.out)
  refine Range_any Nn 0 klo khi tlo thi t key to _ _ _ m wo (Nn.lt _) (Nat.zero_le _) (HT.out _ HBo) (HK.out _ HBo) (Nat.le_trans Hkh.out HBo.size) (HTo.out _ HBo) (Nat.le_trans Hth.out HBo.size) Hm6.out Hg.out.len8 _ (fun wp vr ps hBp hP => ?_)
  rw [T.from_eq _ _ Hg.out.rises, Hl.out, ← rng_eq key to m l Hri.out] at hP
  obtain ⟨pp, cp, rfl⟩ := hP.form
  have hH2 : Below wz1.heap.size wy wp := hHeld.trans (hBp.mono (by have := hHeld.size; omega))
  refine ⟨_, rfl, hH2, ?_⟩
  have hbo := hBp.size
  have hho := hHeld.size
  clear hHeld hBp HBo
  have hHeld := hH2
  clear hH2
  try simp only [Act.put, List.getElem_toArray, List.getElem_cons_succ, List.getElem_cons_zero, List.setIfInBounds_toArray, List.set_cons_zero, List.set_cons_succ]
  refine wpAnyH_ready (rs := [21]) (by kernel_rfl) (by simp) ?_
  refine allCall (f := 42) (args := #[.agg #[.slice au l.length cu], .string ⟨key.toArray⟩, .string ⟨to.toArray⟩, .int .i64 m]) rfl (by kernel_rfl) (by kernel_rfl) ?_ AllReadyH.nil
  have HBo := HB.out.trans (hHeld.mono Hz1.out)
  refine Range_ref ulo uhi l _ key to m wp (HU.out _ HBo) (Nat.le_trans Huh.out HBo.size) Hl3.out _ (fun wq vq hBq ho => ?_)
  obtain ⟨pq, cq, rfl⟩ := OwnR.form ho
  have hH2 : Below wz1.heap.size wy wq := hHeld.trans (hBq.mono (by omega))
  refine ⟨_, rfl, hH2, ?_⟩
  clear hHeld HBo
  have hHeld := hH2
  clear hH2
  try simp only [Act.put, List.getElem_toArray, List.getElem_cons_succ, List.getElem_cons_zero, List.setIfInBounds_toArray, List.set_cons_zero, List.set_cons_succ]
  refine wpAnyH_ready (rs := [22]) (by kernel_rfl) (by simp) ?_
  refine allCall (f := 26) (args := #[.slice pp (rngF key to m l).length cp, .slice pq (rngF key to m l).length cq]) rfl (by kernel_rfl) (by kernel_rfl) ?_ AllReadyH.nil
  have hP2 := hP.below hBq
  refine same_any wo.heap.size wp.heap.size wq.heap.size ps (rngF key to m l) _ _ wq hP2 (fun w' hO => Sl.agree (OwnR.rs ho) (flat_loc _) (hO.agree (Nat.le_refl _) (fun k hk => .inl (hP.lt.2 k hk).2))) (Nat.le_trans (rng_len key to m l) (by have := Hl3.out; omega)) _ (fun wr hO => ?_)
  have hH2 : Below wz1.heap.size wy wr := hHeld.trans (hO.below (by have := hBq.size; omega) (fun k hk => by have := (hP.lt.2 k hk).1; omega))
  refine ⟨_, rfl, hH2, ?_⟩
  have hr := HR.out wr (HB0.out.trans ((HB.out.trans (hH2.mono Hz1.out)).mono HB0.out.size))
  clear hHeld hP2 hO hBq ho hP
  have hHeld := hH2
  clear hH2
  try simp only [Act.put, List.getElem_toArray, List.getElem_cons_succ, List.getElem_cons_zero, List.setIfInBounds_toArray, List.set_cons_zero, List.set_cons_succ]
  refine wpAnyH_take (i := 23) (v := .bool true) rfl (by kernel_rfl) (by kernel_rfl) (by kernel_rfl) (fun _ _ _ h => h) (Or.inl ⟨by rfl, ?_⟩) hHeld ?_
  · intro w' hSw; go_simp
  try simp only [Act.put, List.getElem_toArray, List.getElem_cons_succ, List.getElem_cons_zero, List.setIfInBounds_toArray, List.set_cons_zero, List.set_cons_succ]
  refine wpAnyH_take (i := 24) (v := .bool true) rfl (by kernel_rfl) (by kernel_rfl) (by kernel_rfl) (fun _ _ _ h => h) (Or.inl ⟨by rfl, ?_⟩) hHeld ?_
  · intro w' hSw; go_simp
  try simp only [Act.put, List.getElem_toArray, List.getElem_cons_succ, List.getElem_cons_zero, List.setIfInBounds_toArray, List.set_cons_zero, List.set_cons_succ]
  refine wpAnyH_done (by kernel_rfl) ?_ _
  clear hHeld
  go_wp2_with fail
  first | exact hr | exact fin hr rfl
theorem tells_any (ulo uhi klo khi tlo thi : Nat) (t : T) (l : PL) (key to : List UInt8) (kind frm m : Int) (q : Option Addr) (uv kv vv tv : Value) (w : World) {g : Nat} (hgr : Gr t g) (hl : t.toL = l) (hn : g ≤ 1000) (ht : Tr Nn 0 w t (.pointer q)) (hu : Rs ulo uhi w uv l) (huh : uhi ≤ w.heap.size)
    (hk : Bytes klo khi w kv key) (hkh : khi ≤ w.heap.size) (hto : Bytes tlo thi w tv to) (hth : thi ≤ w.heap.size) (hvv : ∃ a n c, vv = .slice a n c)
    (R : Ending → World → Prop) (hR : ∀ w', Below w.heap.size w w' → R (.returned (.bool true)) w') : Calls Try.prog 25 #[.pointer q, .agg #[uv], .agg #[.int .i64 kind, .int .u16 frm, kv, vv, tv, .int .i64 m]] w R := by
  cases e : getL key l with
  | some dv => exact tells_some ulo uhi klo khi tlo thi t l key to kind frm m q uv kv vv tv w hgr hl hn ht hu huh hk hkh hto hth hvv dv e R hR
  | none => exact tells_none ulo uhi klo khi tlo thi t l key to kind frm m q uv kv vv tv w hgr hl hn ht hu huh hk hkh hto hth hvv e R hR
end Go.Proofs.Ytmlcnfomiemdpaa
