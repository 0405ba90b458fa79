/- Texts that the proofs of RB stand on, part 4. -/
import Derived.Test.YtpncblagjkbemaaKRB3
/- A turn of Join's outer loop. (Printed by meg.py.) -/
section
set_option linter.unusedVariables false
set_option linter.unusedSimpArgs false
namespace Go.Proofs.Ytpncblagjkbemaa
open Go.RowKit Go.Shelf
set_option linter.unusedVariables false
set_option linter.unusedSimpArgs false
attribute [local go_sem] Oper.semAt_some

def findBlock (k : Nat) : Code → Option Code
  | .block i c => if i = k then some (.block i c) else findBlock k c
  | .seq a b => match findBlock k a with
    | some c => some c
    | none => findBlock k b
  | .loop c => findBlock k c
  | .scope c => findBlock k c
  | .cond _ a b => match findBlock k a with
    | some c => some c
    | none => findBlock k b
  | _ => none
/-- What is asked where a piece of code ends the call. -/
def onRet (P : Act → World → Prop) : Exit → Act → World → Prop
  | .ret, a, w => P a w
  | _, _, _ => False
theorem wp_onRet {P : Program} {c : Code} {K : Act → World → Prop} {Q : Exit → Act → World → Prop} {a : Act} {w : World} (h : Code.wp P c (Exit.then K (onRet (fun a w => Q .ret a w))) a w) : Code.wp P c (Exit.then K Q) a w :=
  wp_mono h (fun e a w h => by cases e <;> first | exact h | exact h.elim)
noncomputable def blkJ : Code := ((Try.f41.body.bind (findBlock 1)).getD .skip)
/-- What a slice owns holds no calls put off. -/
theorem Own.ne_def {α : Type} {enc : α → List Value} {e : TypeId} {size lo : Nat} {w : World} {v : Value} {xs : List α} (h : Own enc e size lo w v xs) {D : Nat} {o : Obj} (hb : w.heap[D]? = some o) (hc : o.isCells = false) : v.ownBlock ≠ some D := by
  intro hk
  rcases h.2 with ⟨rfl, -⟩ | ⟨g, cap, cur, rfl, -, hg, -⟩
  · cases hk
  · have e1 : g = D := by simpa [Value.ownBlock] using hk
    subst e1
    rw [hg] at hb
    injection hb with hb
    subst hb
    cases hc
theorem OwnR.turn {lo : Nat} {w w' : World} {v : Value} {hs : List Value} {xs : List (List V)} (h : OwnR lo w v hs xs) {L : Nat} {o : Obj} (hl : w.heap[L]? = some o) (hc : o.isCells = false) (hO : Only (· = L) w w') : OwnR lo w' v hs xs :=
  ⟨Own.same h.own (fun g e => hO.block g (Own.lt h.own g e).2 (fun e2 => Own.ne_def h.own hl hc (by rw [e, show g = L from e2]))), h.len,
    fun i hi h2 => Own.same (h.row i hi h2) (fun g e => hO.block g (Own.lt (h.row i hi h2) g e).2 (fun e2 => Own.ne_def (h.row i hi h2) hl hc (by rw [e, show g = L from e2]))), h.apart⟩
/-- What one row of a brings. -/
def joinT (x : List V) (n : Nat) (T : List (List V)) : List (List V) := T.map fun y => x ++ y.drop n
theorem joinT_take (x : List V) (n : Nat) (T : List (List V)) (k : Nat) (h : k < T.length) : joinT x n (T.take (k + 1)) = joinT x n (T.take k) ++ [x ++ T[k].drop n] := by
  unfold joinT
  rw [List.take_succ_eq_append_getElem h, List.map_append]
  rfl
/-- What Join's inner rounds keep. -/
structure JoJ (L D bo B : Nat) (W5 : World) (rc : Obj) (v0 : Value) (x : List V) (n : Nat) (acc T : List (List V)) (k : Nat) (W : World) : Prop where
  lp : W.heap[L]? = some rc
  df : W.heap[D]? = some (.deferred (some []))
  on : Only (fun z => z = bo ∨ z = L ∨ v0.ownBlock = some z) W5 W
  out : ∃ v hs, Blk W bo [v] 32 ∧ OwnR B W v hs (acc ++ joinT x n (T.take k)) ∧ (v.ownBlock = v0.ownBlock ∨ ∀ q, v.ownBlock = some q → W5.heap.size ≤ q)

/-- One round more. -/
theorem joJ_step {RL : LoopState → Option Code → Loop} {L D bo B k n : Nat} {W5 W3 wC wE : World} {v vk vc vE : Value} {hsk : List Value} {x row : List V} {acc T : List (List V)}
    (hon : Only (fun z => z = bo ∨ z = L ∨ v.ownBlock = some z) W5 W3) (hL5 : L < W5.heap.size) (hD5 : D < W5.heap.size) (hDL : D ≠ L) (hbo5 : bo < W5.heap.size) (hbL : bo ≠ L) (hbD : bo ≠ D) (hbB : bo < B) (hB5 : B ≤ W5.heap.size)
    (hl : W3.heap[L]? = some (.loop (RL .busy none))) (hd : W3.heap[D]? = some (.deferred (some []))) (hbk : Blk W3 bo [vk] 32) (hok : OwnR B W3 vk hsk (acc ++ joinT x n (T.take k)))
    (hvk : vk.ownBlock = v.ownBlock ∨ ∀ q, vk.ownBlock = some q → W5.heap.size ≤ q) (htk : joinT x n (T.take (k + 1)) = joinT x n (T.take k) ++ [row])
    (hBC : Below W3.heap.size W3 wC) (hoC : OwnV W3.heap.size wC vc row) (hoE : OwnH B wE vE (hsk ++ [vc])) (hap : Appended wC vk wE vE) :
    (wE.setCell ⟨bo, 0, none⟩ vE).heap[L]? = some (.loop (RL .busy none)) ∧
    JoJ L D bo B W5 (.loop (RL .ready none)) v x n acc T (k + 1) ((wE.setCell ⟨bo, 0, none⟩ vE).putObj L (.loop (RL .ready none))) := by
  have hz3 := hon.size
  have hzC := hBC.size
  have hokC := hok.kept hBC
  have hbkC := hbk.below hBC hbk.lt
  have hlC := (hBC.block L (heap_lt hl)).trans hl
  have hdC := (hBC.block D (heap_lt hd)).trans hd
  have hO : Only (fun z => vk.ownBlock = some z) wC wE := ⟨hap.grown.os, hap.grown.tape, hap.grown.output, hap.grown.size, fun k hk hA => hap.grown.block k hk (fun e => hA e.symm)⟩
  have nl := Own.ne_def hokC.own hlC rfl
  have nd := Own.ne_def hokC.own hdC rfl
  have nb := Own.ne_blk hokC.own hbkC (by decide)
  have hlE := (hO.block L (heap_lt hlC) nl).trans hlC
  have hdE := (hO.block D (heap_lt hdC) nd).trans hdC
  have hbkE := hO.blk hbkC nb
  have hsn := OwnR.snoc hokC (Own.lower hoC (by omega)) (fun q hq e => by
    have h1 := (Own.lt hoC q hq).1
    have h2 := (Own.lt hok.own q e).2
    omega) hoE hap
  rw [List.append_assoc, ← htk] at hsn
  have hsF := hsn.setBlk hbkE (by decide) (by decide) 0 vE
  have hlF : (wE.setCell ⟨bo, 0, none⟩ vE).heap[L]? = some (.loop (RL .busy none)) := (Below.heap_setCell _ _ _ _ (Ne.symm hbL)).trans hlE
  have hdF : (wE.setCell ⟨bo, 0, none⟩ vE).heap[D]? = some (.deferred (some [])) := (Below.heap_setCell _ _ _ _ (Ne.symm hbD)).trans hdE
  have hp : Only (· = L) (wE.setCell ⟨bo, 0, none⟩ vE) ((wE.setCell ⟨bo, 0, none⟩ vE).putObj L (.loop (RL .ready none))) := Only.putObj (A := (· = L)) _ (b := L) rfl _
  refine ⟨hlF, World.putObj_heap_same (heap_lt hlF), (hp.block D (heap_lt hdF) hDL).trans hdF, ?_, vE, hsk ++ [vc], hp.blk (hbkE.set 0 vE) hbL, hsF.turn hlF rfl hp, ?_⟩
  · refine Only.into2 (A' := fun z => z = bo ∨ z = L ∨ v.ownBlock = some z) (Only.into2 (Only.into2 hon (Below.only (A := fun _ => False) hBC) (fun _ _ h => h.elim)) hO (fun b hb h => ?_)) ((Only.setCell (A := fun z => z = bo ∨ z = L ∨ v.ownBlock = some z) wE (p := ⟨bo, 0, none⟩) (.inl rfl) vE).trans (hp.mono (fun z _ hz => .inr (.inl hz)))) (fun _ _ h => h)
    rcases hvk with e | h2
    · exact .inr (.inr (e ▸ h))
    · have := h2 b h; omega
  · rcases hap.moved with e | ⟨q, e, hq⟩
    · rw [e]; exact hvk
    · exact .inr (fun q' hq' => by rw [e] at hq'; injection hq' with hq'; omega)

set_option maxRecDepth 1000000 in
set_option maxHeartbeats 16000000 in
theorem joinRound (lo hi l1 h1 l2 h2 b9 bo B i : Nat) (la l : List (List V)) (pa pl : Option Addr) (ca cl : Nat) (at' : List Int) (va v : Value) (hs : List Value) (acc : List (List V)) (wo : World)
    (hla : Rws lo hi wo (.slice pa la.length ca) la) (hhi : hi ≤ bo) (hl : Rws l1 h1 wo (.slice pl l.length cl) l) (hh1 : h1 ≤ bo) (hat : Ints l2 h2 wo va at') (hh2 : h2 ≤ bo)
    (h9 : Blk wo b9 [va] 84) (h9b : b9 < bo) (hbo : Blk wo bo [v] 32) (hbB : bo < B) (hBw : B ≤ wo.heap.size) (hown : OwnR B wo v hs acc)
    (hup : l.Pairwise fun a b => 0 ≤ cmpR b a) (hln : ∀ y ∈ l, at'.length ≤ y.length) (hlen : l.length ≤ 1000000000) (hok : ∀ x ∈ la, AtOk x.length at') (hal : at'.length ≤ 1000000) (hxl : ∀ x ∈ la, x.length ≤ 1000000) (hyl : ∀ y ∈ l, y.length ≤ 1000000)
    (hi2 : i < la.length) (hll : la.length ≤ 1000000000) (hacc : acc.length + l.length < 100000) (K P : Act → World → Prop) (c0 c1 c2 c3 c4 c5 c6 c7 c8 c10 c16 c17 c18 c19 c20 c21 c22 c23 c24 c25 c26 c27 c28 c29 c30 c31 c32 c33 c34 c35 c36 c37 c38 c39 c40 c41 c42 c43 c44 c45 c46 c47 c48 c49 c50 c51 c53 c78 c79 c80 c81 c82 c83 u13 u14 u15 u55 u56 u57 u58 u59 u60 u61 u62 u63 u64 u65 u66 u67 u68 u69 u70 u71 u72 u73 u74 u75 u76 u77 : Value) (ds : List Deferred)
    (hn : ∀ w' v' hs' D, Only (fun z => z = bo ∨ v.ownBlock = some z) wo w' → Blk w' bo [v'] 32 → OwnR B w' v' hs' (acc ++ joinT la[i] at'.length (agreeL l (pickL la[i] at'))) → (v'.ownBlock = v.ownBlock ∨ ∀ q, v'.ownBlock = some q → wo.heap.size ≤ q) → wo.heap.size ≤ D → w'.heap[D]? = some (.deferred (some [])) →
      ∀ u13 u14 u15 u55 u56 u57 u58 u59 u60 u61 u62 u63 u64 u65 u66 u67 u68 u69 u70 u71 u72 u73 u74 u75 u76 u77 : Value, K ⟨#[c0, c1, c2, c3, c4, c5, c6, c7, c8, .pointer (some ⟨b9, 0, none⟩), c10, .slice pl l.length cl, .pointer (some ⟨bo, 0, none⟩), u13, u14, u15, c16, c17, c18, c19, c20, c21, c22, c23, c24, c25, c26, c27, c28, c29, c30, c31, c32, c33, c34, c35, c36, c37, c38, c39, c40, c41, c42, c43, c44, c45, c46, c47, c48, c49, c50, c51, .slice pa la.length ca, c53, .int .i64 i, u55, u56, u57, u58, u59, u60, u61, u62, u63, u64, u65, u66, u67, u68, u69, u70, u71, u72, u73, u74, u75, u76, u77, c78, c79, c80, c81, c82, c83], markD D :: ds⟩ w') :
    Code.wp Try.prog blkJ (Exit.then K (onRet P)) ⟨#[c0, c1, c2, c3, c4, c5, c6, c7, c8, .pointer (some ⟨b9, 0, none⟩), c10, .slice pl l.length cl, .pointer (some ⟨bo, 0, none⟩), u13, u14, u15, c16, c17, c18, c19, c20, c21, c22, c23, c24, c25, c26, c27, c28, c29, c30, c31, c32, c33, c34, c35, c36, c37, c38, c39, c40, c41, c42, c43, c44, c45, c46, c47, c48, c49, c50, c51, .slice pa la.length ca, c53, .int .i64 i, u55, u56, u57, u58, u59, u60, u61, u62, u63, u64, u65, u66, u67, u68, u69, u70, u71, u72, u73, u74, u75, u76, u77, c78, c79, c80, c81, c82, c83], ds⟩ wo := by
  have Hn := Lib.hid hn
  have Hla := Lib.hid hla
  have Hl := Lib.hid hl
  have Hat := Lib.hid hat
  have H9 := Lib.hid h9
  have Hbo := Lib.hid hbo
  have Hown := Lib.hid hown
  have Hup := Lib.hid hup
  have Hln := Lib.hid hln
  have Hok := Lib.hid hok
  have Hxl := Lib.hid hxl
  have Hyl := Lib.hid hyl
  have hbol := hbo.lt
  obtain ⟨pt, ct, rfl, -, -, -, -⟩ := hat.form
  obtain ⟨b4, o4, rfl, hb4, hrow4⟩ := Rws.at hla (by omega) (by omega)
  obtain ⟨px, cx, g2, r2⟩ := hrow4 i hi2
  have g0 := g2 wo (Below.refl _ _)
  have R2 := Lib.hid r2
  have Hoki : Hid (AtOk la[i].length at') := Lib.hid (hok _ (List.getElem_mem hi2))
  have hxi := hxl _ (List.getElem_mem hi2)
  have ii0 : (0 : Int) ≤ (i : Int) := by omega
  have iil : (i : Int) < (la.length : Int) := by omega
  clear hn hla hl hat hbo hown hup hln hok hxl hyl hrow4 g2 r2
  generalize la[i] = x at *
  have hBx := alloc_below wo (.cells #[.slice px x.length cx] 42)
  have hkx := Blk.new wo [.slice px x.length cx] 42 rfl
  have c9 := (H9.out.below hBx (by omega)).cells.c1
  clear h9
  conv => arg 2; whnf
  go_wp2_with fail
  have HBx := Lib.hid hBx
  have Hkx := Lib.hid hkx
  have hzx := hBx.size
  have hs1 : (wo.alloc (.cells #[.slice px x.length cx] 42)).heap.size = wo.heap.size + 1 := by simp
  have hs1' : wo.heap.size < (wo.alloc (.cells #[.slice px x.length cx] 42)).heap.size := by omega
  clear hBx hkx c9 g0 hs1
  refine pick_any lo hi l2 h2 x at' _ _ (wo.alloc (.cells #[.slice px x.length cx] 42)) (Sl.below R2.out Row1.loc HBx.out (by omega)) (by omega) (Sl.below Hat.out Ints.loc HBx.out (by omega)) (by omega) Hoki.out (by omega) _ (fun wq vq hBq hoq => ?_)
  obtain ⟨pq, qq, rfl⟩ := Own.slice hoq
  have HBq := Lib.hid (HBx.out.trans (hBq.mono hzx))
  have Hkxq := Lib.hid (Hkx.out.below hBq hs1')
  have Hoq := Lib.hid (Own.lower hoq hzx)
  have hzq := HBq.out.size
  have hwq : wo.heap.size < wq.heap.size := Hkxq.out.lt
  clear hBq hoq Hkx HBx hzx hs1'
  go_wp2_with fail
  refine agree_any pl pq l.length cl (pickL x at').length qq wq _ ?_
  have hBa := alloc_below wq (.cells #[.slice pl l.length cl] 32)
  have hka := Blk.new wq [.slice pl l.length cl] 32 rfl
  have hsa : (wq.alloc (.cells #[.slice pl l.length cl] 32)).heap.size = wq.heap.size + 1 := by simp
  have hBb := alloc_below (wq.alloc (.cells #[.slice pl l.length cl] 32)) (.cells #[.slice pq (pickL x at').length qq] 42)
  have hkb := Blk.new (wq.alloc (.cells #[.slice pl l.length cl] 32)) [.slice pq (pickL x at').length qq] 42 hsa.symm
  have hka4 := hka.below hBb hka.lt
  have hB4 := hBa.trans (hBb.mono hBa.size)
  clear hka hBa hBb hsa
  generalize (wq.alloc (.cells #[.slice pl l.length cl] 32)).alloc (.cells #[.slice pq (pickL x at').length qq] 42) = W4 at *
  have HB4 := Lib.hid hB4
  have Hka := Lib.hid hka4
  have Hkb := Lib.hid hkb
  have hz4 := hB4.size
  have hkbl := hkb.lt
  have hkal := hka4.lt
  have HBw4 := Lib.hid (HBq.out.trans (hB4.mono hzq))
  have Hkx4 := Lib.hid (Hkxq.out.below hB4 hwq)
  clear hB4 hka4 hkb
  have hpl : (pickL x at').length = at'.length := by unfold pickL; simp
  have Hpl : Hid ((pickL x at').length = at'.length) := Lib.hid hpl
  clear hpl
  obtain ⟨T, hT⟩ : ∃ T, agreeL l (pickL x at') = T := ⟨_, rfl⟩
  have hTl : T.length ≤ l.length := by rw [← hT]; exact List.length_filter_le _ _
  have HT : Hid (∀ y ∈ T, at'.length ≤ y.length ∧ y.length ≤ 1000000) := Lib.hid (fun y hy => by
    rw [← hT] at hy
    have : y ∈ l := (List.mem_filter.1 (show y ∈ l.filter _ from hy)).1
    exact ⟨Hln.out y this, Hyl.out y this⟩)
  rw [hT] at Hn
  go_wp2_with fail
  refine wp_rangeFuncR 2 (gf := 118) rfl (enters_of Try.func118 (by kernel_rfl) rfl) (fun fn RL hRL => ?_)
  have HRL := Lib.hid hRL
  clear hRL
  have hB5 : Below W4.heap.size W4 ((W4.alloc (.deferred (some []))).alloc (.loop (RL .ready none))) := ((Below.refl _ _).alloc (Nat.le_refl _) _).alloc (by simp) _
  have hlD : ((W4.alloc (.deferred (some []))).alloc (.loop (RL .ready none))).heap[W4.heap.size]? = some (.deferred (some [])) := (Below.heap_alloc _ _ _ (by simp)).trans (World.alloc_heap_new W4 _)
  have hlL : ((W4.alloc (.deferred (some []))).alloc (.loop (RL .ready none))).heap[W4.heap.size + 1]? = some (.loop (RL .ready none)) := by
    have := World.alloc_heap_new (W4.alloc (.deferred (some []))) (.loop (RL .ready none))
    rwa [World.size_alloc] at this
  generalize (W4.alloc (.deferred (some []))).alloc (.loop (RL .ready none)) = W5 at *
  have HBw5 := Lib.hid (HBw4.out.trans (hB5.mono (by omega)))
  have hlt5 := heap_lt hlL
  have hltD := heap_lt hlD
  have Hbo5 := Lib.hid (Hbo.out.below HBw5.out hbol)
  have Hown5 := Lib.hid (Hown.out.kept HBw5.out)
  have HlD := Lib.hid hlD
  have hvlt : ∀ q, v.ownBlock = some q → B ≤ q ∧ q < wo.heap.size := fun q hq => Own.lt Hown.out.own q hq
  have Hvlt := Lib.hid hvlt
  have Hb5 := Lib.hid hB5
  have hJ0 : JoJ (W4.heap.size + 1) W4.heap.size bo B W5 (.loop (RL .ready none)) v x at'.length acc T 0 W5 := ⟨hlL, hlD, Only.refl _ _, v, hs, Hbo5.out, by simpa [joinT] using Hown5.out, .inl rfl⟩
  have HJ0 := Lib.hid hJ0
  clear hJ0 hB5 hlD hlL hvlt
  have HJF : Hid (∀ k W, JoJ (W4.heap.size + 1) W4.heap.size bo B W5 (.loop (RL .ready none)) v x at'.length acc T k W → Below bo wo W ∧ Agree wo.heap.size W4.heap.size W4 W ∧ W5.heap.size ≤ W.heap.size) := Lib.hid (fun k W h => by
    refine ⟨(HBw5.out.mono (by omega)).trans (h.on.below (by omega) (fun z hz => ?_)), fun b h1 h2 => (h.on.block b (by omega) (fun hz => ?_)).trans (Hb5.out.block b h2), h.on.size⟩
    · rcases hz with rfl | rfl | hz
      · exact Nat.le_refl _
      · omega
      · have := Hvlt.out z hz; omega
    · rcases hz with rfl | rfl | hz
      · omega
      · omega
      · have := Hvlt.out b hz; omega)
  refine (agree1_any l1 h1 wo.heap.size wq.heap.size wq.heap.size (wq.heap.size + 1) (W4.heap.size + 1) 1 l pl pq cl qq (pickL x at') (JoJ (W4.heap.size + 1) W4.heap.size bo B W5 (.loop (RL .ready none)) v x at'.length acc T) (fun _ => False) Hup.out (fun y hy => by rw [Hpl.out]; exact Hln.out y hy) hlen ?hJF ?hJB ?hY W5 HJ0.out).mono ?hend
  case hJF =>
    intro k W h
    obtain ⟨ha, hb, hc⟩ := HJF.out k W h
    have hzw : wo.heap.size ≤ W.heap.size := by omega
    refine ⟨Sl.below Hl.out rowE_loc ha hh1, by omega, Sl.agree (OwnV.sl Hoq.out) Row1.loc (fun b h1 h2 => (hb b h1 (by omega)).trans (HB4.out.block b h2)), by omega, Hka.out.agree hb (by omega) hkal, Hkb.out.agree hb (by omega) hkbl⟩
  case hJB =>
    intro k W W' h hB
    obtain ⟨vk, hk, h1, h2, h3⟩ := h.out
    exact ⟨(hB.block _ (heap_lt h.lp)).trans h.lp, (hB.block _ (heap_lt h.df)).trans h.df, h.on.trans (Below.only hB), vk, hk, h1.below hB h1.lt, h2.kept hB, h3⟩
  case hY =>
    intro k yp yc W h hk hrow
    obtain ⟨ha, hb, hc⟩ := HJF.out k W h
    have hLl := heap_lt h.lp
    have HJ := Lib.hid h
    have HA := Lib.hid ha
    have HAg := Lib.hid hb
    have hzw : wo.heap.size ≤ W.heap.size := by omega
    have hk' : k < T.length := by rw [← hT]; exact hk
    have hey : (agreeL l (pickL x at'))[k] = T[k] := by simp only [hT]
    rw [hey] at hrow ⊢
    have Hrow := Lib.hid hrow
    have hty := HT.out _ (List.getElem_mem hk')
    have Htk : Hid (joinT x at'.length (T.take (k + 1)) = joinT x at'.length (T.take k) ++ [x ++ T[k].drop at'.length]) := Lib.hid (joinT_take x at'.length T k hk')
    have hkl : (joinT x at'.length (T.take k)).length = k := by simp [joinT]; omega
    clear h hrow HJ0 hk hey hT ha hb
    generalize T[k] = y at *
    generalize hL : W4.heap.size + 1 = L at *
    have hL4 : W4.heap.size < L := by omega
    clear hL
    refine yieldAt_recR HRL.out HJ.out.lp rfl ?_
    gi_wp2_with fail
    refine ⟨HJ.out.lp, ?_⟩
    obtain ⟨vk, hsk, hbk, hok, hvk⟩ := HJ.out.out
    have ho3 : Only (· = L) W (W.putObj L (.loop (RL .busy none))) := Only.putObj (A := (· = L)) W (b := L) rfl _
    have hl3 : (W.putObj L (.loop (RL .busy none))).heap[L]? = some (.loop (RL .busy none)) := World.putObj_heap_same hLl
    generalize W.putObj L (.loop (RL .busy none)) = W3 at *
    have hs3 := ho3.size
    have hbk3 := ho3.blk hbk (show ¬ bo = L by omega)
    have hok3 := hok.turn HJ.out.lp rfl ho3
    have hdf3 := (ho3.block W4.heap.size (heap_lt HJ.out.df) (show ¬ W4.heap.size = L by omega)).trans HJ.out.df
    have hx3 : Blk W3 wo.heap.size [.slice px x.length cx] 42 := ho3.blk (Hkx4.out.agree HAg.out (Nat.le_refl _) (by omega)) (show ¬ wo.heap.size = L by omega)
    have h93 : Blk W3 b9 [.slice pt at'.length ct] 84 := ho3.blk (H9.out.below HA.out h9b) (show ¬ b9 = L by omega)
    have hA3 : Below bo wo W3 := HA.out.trans (ho3.below (by omega) (fun z hz => by have : z = L := hz; omega))
    have hy3 : Row1 l1 h1 W3 (.slice yp y.length yc) y := Sl.agree Hrow.out Row1.loc (ho3.agree (by omega) (fun z hz => by have : z = L := hz; omega))
    have hon3 : Only (fun z => z = bo ∨ z = L ∨ v.ownBlock = some z) W5 W3 := HJ.out.on.trans (ho3.mono (fun z _ hz => .inr (.inl hz)))
    have hk3 : hsk.length = acc.length + k := by rw [hok.len, List.length_append, hkl]
    obtain ⟨pk, ck, rfl⟩ : ∃ p c, vk = .slice p (acc.length + k) c := by
      obtain ⟨p, c, e⟩ := Own.slice hok.own
      exact ⟨p, c, by rw [e, hk3]⟩
    obtain ⟨vy, hvy, hdy⟩ := Sl.fromOn hy3 42 Try.underlying42 (fun _ => by kernel_rfl) at'.length hty.1
    have Hbk3 := Lib.hid hbk3
    have Hok3 := Lib.hid hok3
    have Hdf3 := Lib.hid hdf3
    have Hx3 := Lib.hid hx3
    have H93 := Lib.hid h93
    have HA3 := Lib.hid hA3
    have Hl3 := Lib.hid hl3
    have Hon3 := Lib.hid hon3
    have Hvk := Lib.hid hvk
    have Hk3 := Lib.hid hk3
    have Hdy := Lib.hid hdy
    have hmm : acc.length + k < 100000 := by omega
    have cb := hbk3.cells.c1
    clear hbk hok hvk ho3 hl3 hbk3 hok3 hdf3 hx3 h93 hA3 hy3 hon3 hk3 hdy
    generalize hm : acc.length + k = m at *
    have hm1 : ¬ (m : Int) = 100000 := by omega
    have hm0 : (0 : Int) ≤ (m : Int) := by omega
    gi_wp2_with fail
    obtain ⟨py, cy, rfl, -, -, -, -⟩ := Hdy.out.form
    refine wpIn_region_held (S := fun w' => Only (fun z => z = bo ∨ (Value.slice pk m ck).ownBlock = some z) W3.drew w') (by kernel_rfl) (by rintro ⟨a, w, h⟩; exact h) (by kernel_rfl) (Only.refl _ _) (fun hHeld => ?_)
    have Hbkd : Hid (Blk W3.drew bo [.slice pk m ck] 32) := Lib.hid Hbk3.out.drew
    have Hokd : Hid (OwnR B W3.drew (.slice pk m ck) hsk (acc ++ joinT x at'.length (T.take k))) := Lib.hid (Hok3.out.kept ((Below.refl _ _).drew))
    have Hdfd : Hid (W3.drew.heap[W4.heap.size]? = some (.deferred (some []))) := Lib.hid Hdf3.out
    have Hxd : Hid (Blk W3.drew wo.heap.size [.slice px x.length cx] 42) := Lib.hid Hx3.out.drew
    have H9d : Hid (Blk W3.drew b9 [.slice pt at'.length ct] 84) := Lib.hid H93.out.drew
    have Hld : Hid (W3.drew.heap[L]? = some (.loop (RL .busy none))) := Lib.hid Hl3.out
    have Hond : Hid (Only (fun z => z = bo ∨ z = L ∨ v.ownBlock = some z) W5 W3.drew) := Lib.hid (Hon3.out.trans (Only.drew W3))
    have HAd : Hid (Below bo wo W3.drew) := Lib.hid HA3.out.drew
    have Hdyd : Hid (Row1 l1 h1 W3.drew (.slice py (y.drop at'.length).length cy) (y.drop at'.length)) := Lib.hid (Sl.below Hdy.out Row1.loc ((Below.refl W3.heap.size W3).drew) (by omega))
    have hsd : W3.heap.size ≤ W3.drew.heap.size := Nat.le_refl _
    have hwd : W.heap.size ≤ W3.drew.heap.size := by omega
    clear Hbk3 Hok3 Hdf3 Hx3 H93 Hl3 Hon3 HA3 Hdy cb
    generalize W3.drew = wk at *
    clear hsd
    have hxlt := Hxd.out.lt
    have hnb : ¬ (b9 = bo ∨ (Value.slice pk m ck).ownBlock = some b9) := by
      rintro (h | h)
      · omega
      · have := (Own.lt Hokd.out.own b9 h).1; omega
    have hnx : ¬ (wo.heap.size = bo ∨ (Value.slice pk m ck).ownBlock = some wo.heap.size) := by
      rintro (h | h)
      · omega
      · rcases Hvk.out with e | h2
        · rw [e] at h; have := Hvlt.out _ h; omega
        · have := h2 _ h; omega
    have hrl : (y.drop at'.length).length ≤ 1000000 := by rw [List.length_drop]; omega
    generalize hyd : y.drop at'.length = yd at *
    have hBA := alloc_below wk (.cells #[.slice px x.length cx, .slice py yd.length cy] 42)
    have hcA := (Blk.new wk [.slice px x.length cx, .slice py yd.length cy] 42 rfl)
    have hbr : (Instr.buildSlice 32 2 #[(0, .slice px x.length cx), (1, .slice py yd.length cy)]).run Try.prog wk = .ok (.slice (some ⟨wk.heap.size, 0, none⟩) 2 2) (wk.alloc (.cells #[.slice px x.length cx, .slice py yd.length cy] 42)) := by go_simp
    generalize wk.alloc (.cells #[.slice px x.length cx, .slice py yd.length cy] 42) = wA at *
    have HBA := Lib.hid hBA
    have HcA := Lib.hid hcA.cells
    have hltA := hcA.lt
    have Hbr := Lib.hid hbr
    have hzA := hBA.size
    have HwoA := Lib.hid (HAd.out.trans (hBA.mono (by omega)))
    have Hvy := Lib.hid hvy
    clear hBA hcA hbr hvy
    refine wpAnyH_take (i := 1) (v := .slice px x.length cx) rfl (by kernel_rfl) (by kernel_rfl) (by kernel_rfl) (fun _ _ _ h => h) (Or.inl ⟨by rfl, ?_⟩) hHeld ?_
    · intro w' hSw; have kx := (hSw.blk Hxd.out hnx).cells.c1; go_simp
    try simp only [Act.put, List.getElem_toArray, List.getElem_cons_succ, List.getElem_cons_zero, List.setIfInBounds_toArray, List.set_cons_zero, List.set_cons_succ]
    refine wpAnyH_take (i := 2) (v := .slice yp y.length yc) rfl (by kernel_rfl) (by kernel_rfl) (by kernel_rfl) (fun _ _ _ h => h) (Or.inl ⟨by rfl, ?_⟩) hHeld ?_
    · intro w' hSw; go_simp
    try simp only [Act.put, List.getElem_toArray, List.getElem_cons_succ, List.getElem_cons_zero, List.setIfInBounds_toArray, List.set_cons_zero, List.set_cons_succ]
    refine wpAnyH_take (i := 3) (v := .slice pt at'.length ct) rfl (by kernel_rfl) (by kernel_rfl) (by kernel_rfl) (fun _ _ _ h => h) (Or.inl ⟨by rfl, ?_⟩) hHeld ?_
    · intro w' hSw; have kx := (hSw.blk H9d.out hnb).cells.c1; go_simp
    try simp only [Act.put, List.getElem_toArray, List.getElem_cons_succ, List.getElem_cons_zero, List.setIfInBounds_toArray, List.set_cons_zero, List.set_cons_succ]
    refine wpAnyH_take (i := 4) (v := .int .i64 ((at'.length : Int))) rfl (by kernel_rfl) (by kernel_rfl) (by kernel_rfl) (fun _ _ _ h => h) (Or.inl ⟨by rfl, ?_⟩) hHeld ?_
    · intro w' hSw; go_simp
    try simp only [Act.put, List.getElem_toArray, List.getElem_cons_succ, List.getElem_cons_zero, List.setIfInBounds_toArray, List.set_cons_zero, List.set_cons_succ]
    refine wpAnyH_take (i := 5) (v := .slice py yd.length cy) rfl (by kernel_rfl) (by kernel_rfl) (by kernel_rfl) (fun _ _ _ h => h) (Or.inl ⟨by rfl, ?_⟩) hHeld ?_
    · intro w' hSw; have kx := Hvy.out; go_simp
    try simp only [Act.put, List.getElem_toArray, List.getElem_cons_succ, List.getElem_cons_zero, List.setIfInBounds_toArray, List.set_cons_zero, List.set_cons_succ]
    refine wpAnyH_ready (rs := [0, 6]) (by kernel_rfl) (by simp) ?_
    refine allVal (v := .slice pk m ck) (w' := wk) rfl (by kernel_rfl) (by have kx := Hbkd.out.cells.c1; go_simp) hHeld ?_ ?_
    · try simp only [Act.put, List.getElem_toArray, List.getElem_cons_succ, List.getElem_cons_zero, List.setIfInBounds_toArray, List.set_cons_zero, List.set_cons_succ]
      refine wpAnyH_ready (rs := [6]) (by kernel_rfl) (by simp) ?_
      refine allVal rfl (by kernel_rfl) (execBuild Hbr.out rfl (by kernel_rfl)) (Below.only HBA.out) ?_ AllReadyH.nil
      try simp only [Act.put, List.getElem_toArray, List.getElem_cons_succ, List.getElem_cons_zero, List.setIfInBounds_toArray, List.set_cons_zero, List.set_cons_succ]
      refine wpAnyH_ready (rs := [7]) (by kernel_rfl) (by simp) ?_
      refine allCall (f := 87) (args := #[.slice (some ⟨wk.heap.size, 0, none⟩) 2 2]) rfl (by kernel_rfl) (by kernel_rfl) ?_ AllReadyH.nil
      refine ConcatVal_any lo hi l1 h1 wk.heap.size x yd _ _ wA (Sl.below R2.out Row1.loc HwoA.out (by omega)) (by omega) (Sl.below Hdyd.out Row1.loc HBA.out (by omega)) (by omega) HcA.out hltA (by omega) (by omega) _ (fun wC vc hBC0 hoC0 => ?_)
      obtain ⟨pc, qc, rfl⟩ := Own.slice hoC0
      have HBC := Lib.hid (HBA.out.trans (hBC0.mono hzA))
      have HoC := Lib.hid (Own.lower hoC0 hzA)
      have hzC := HBC.out.size
      refine ⟨_, rfl, Below.only HBC.out, ?_⟩
      clear hBC0 hoC0
      try simp only [Act.put, List.getElem_toArray, List.getElem_cons_succ, List.getElem_cons_zero, List.setIfInBounds_toArray, List.set_cons_zero, List.set_cons_succ]
      obtain ⟨vE, wE, hrun, hoE, hap⟩ := appH1 (Hokd.out.kept HBC.out).own pc (x ++ yd).length qc (n := wC.heap.size) rfl (by rw [Hk3.out]; omega) (by omega)
      have hBD := HBC.out.trans ((alloc_below wC (.cells #[.slice pc (x ++ yd).length qc] 42)).mono hzC)
      have hbr2 : (Instr.buildSlice 32 1 #[(0, .slice pc (x ++ yd).length qc)]).run Try.prog wC = .ok (.slice (some ⟨wC.heap.size, 0, none⟩) 1 1) (wC.alloc (.cells #[.slice pc (x ++ yd).length qc] 42)) := by go_simp
      generalize wC.alloc (.cells #[.slice pc (x ++ yd).length qc] 42) = wD at *
      obtain ⟨pE, qE, rfl⟩ := Own.slice hoE
      have Hst := Lib.hid (joJ_step Hond.out hlt5 hltD (by omega) (by omega) (by omega) (by omega) hbB (by omega) Hld.out Hdfd.out Hbkd.out Hokd.out Hvk.out Htk.out HBC.out HoC.out hoE hap)
      have HSE : Hid (Only (fun z => z = bo ∨ (Value.slice pk m ck).ownBlock = some z) wk wE) := Lib.hid ((Below.only HBC.out).trans ⟨hap.grown.os, hap.grown.tape, hap.grown.output, hap.grown.size, fun q hq hA => hap.grown.block q hq (fun e => hA (.inr e.symm))⟩)
      have HbE := Lib.hid (hap.blk (Hbkd.out.below HBC.out Hbkd.out.lt) (Own.ne_blk (Hokd.out.kept HBC.out).own (Hbkd.out.below HBC.out Hbkd.out.lt) (by decide)))
      have HBD := Lib.hid hBD
      have Hrun := Lib.hid hrun
      have Hbr2 := Lib.hid hbr2
      clear hBD hrun hbr2 hoE hap
      refine wpAnyH_ready (rs := [8]) (by kernel_rfl) (by simp) ?_
      refine allVal rfl (by kernel_rfl) (execBuild Hbr2.out rfl (by kernel_rfl)) (Below.only HBD.out) ?_ AllReadyH.nil
      try simp only [Act.put, List.getElem_toArray, List.getElem_cons_succ, List.getElem_cons_zero, List.setIfInBounds_toArray, List.set_cons_zero, List.set_cons_succ]
      refine wpAnyH_ready (rs := [9]) (by kernel_rfl) (by simp) ?_
      refine allVal rfl (by kernel_rfl) (execApp Hrun.out rfl (by kernel_rfl) (by kernel_rfl)) HSE.out ?_ AllReadyH.nil
      try simp only [Act.put, List.getElem_toArray, List.getElem_cons_succ, List.getElem_cons_zero, List.setIfInBounds_toArray, List.set_cons_zero, List.set_cons_succ]
      refine wpAnyH_ready (rs := [10]) (by kernel_rfl) (by simp) ?_
      refine allSkip (w' := wE.setCell ⟨bo, 0, none⟩ (.slice pE (hsk ++ [Value.slice pc (x ++ yd).length qc]).length qE)) rfl (by kernel_rfl) (by have kx := HbE.out.cells.c1; have kf := HbE.out.free 0; go_simp) (HSE.out.trans (Only.setCell (A := fun z => z = bo ∨ (Value.slice pk m ck).ownBlock = some z) wE (p := ⟨bo, 0, none⟩) (.inl rfl) _)) ?_ AllReadyH.nil
      try simp only [Act.put, List.getElem_toArray, List.getElem_cons_succ, List.getElem_cons_zero, List.setIfInBounds_toArray, List.set_cons_zero, List.set_cons_succ]
      refine wpAnyH_done (by kernel_rfl) ?_ _
      gi_wp2_with fail
      exact roundPost_normalR HRL.out Hst.out.1 (by first | exact ⟨rfl, Hst.out.2⟩ | exact .inl ⟨rfl, Hst.out.2⟩)
    · refine allVal rfl (by kernel_rfl) (execBuild Hbr.out rfl (by kernel_rfl)) (Below.only HBA.out) ?_ AllReadyH.nil
      try simp only [Act.put, List.getElem_toArray, List.getElem_cons_succ, List.getElem_cons_zero, List.setIfInBounds_toArray, List.set_cons_zero, List.set_cons_succ]
      refine wpAnyH_ready (rs := [0, 7]) (by kernel_rfl) (by simp) ?_
      refine allVal (v := .slice pk m ck) (w' := wA) rfl (by kernel_rfl) (by have kx := (Hbkd.out.below HBA.out Hbkd.out.lt).cells.c1; go_simp) (Below.only HBA.out) ?_ ?_
      · try simp only [Act.put, List.getElem_toArray, List.getElem_cons_succ, List.getElem_cons_zero, List.setIfInBounds_toArray, List.set_cons_zero, List.set_cons_succ]
        refine wpAnyH_ready (rs := [7]) (by kernel_rfl) (by simp) ?_
        refine allCall (f := 87) (args := #[.slice (some ⟨wk.heap.size, 0, none⟩) 2 2]) rfl (by kernel_rfl) (by kernel_rfl) ?_ AllReadyH.nil
        refine ConcatVal_any lo hi l1 h1 wk.heap.size x yd _ _ wA (Sl.below R2.out Row1.loc HwoA.out (by omega)) (by omega) (Sl.below Hdyd.out Row1.loc HBA.out (by omega)) (by omega) HcA.out hltA (by omega) (by omega) _ (fun wC vc hBC0 hoC0 => ?_)
        obtain ⟨pc, qc, rfl⟩ := Own.slice hoC0
        have HBC := Lib.hid (HBA.out.trans (hBC0.mono hzA))
        have HoC := Lib.hid (Own.lower hoC0 hzA)
        have hzC := HBC.out.size
        refine ⟨_, rfl, Below.only HBC.out, ?_⟩
        clear hBC0 hoC0
        try simp only [Act.put, List.getElem_toArray, List.getElem_cons_succ, List.getElem_cons_zero, List.setIfInBounds_toArray, List.set_cons_zero, List.set_cons_succ]
        obtain ⟨vE, wE, hrun, hoE, hap⟩ := appH1 (Hokd.out.kept HBC.out).own pc (x ++ yd).length qc (n := wC.heap.size) rfl (by rw [Hk3.out]; omega) (by omega)
        have hBD := HBC.out.trans ((alloc_below wC (.cells #[.slice pc (x ++ yd).length qc] 42)).mono hzC)
        have hbr2 : (Instr.buildSlice 32 1 #[(0, .slice pc (x ++ yd).length qc)]).run Try.prog wC = .ok (.slice (some ⟨wC.heap.size, 0, none⟩) 1 1) (wC.alloc (.cells #[.slice pc (x ++ yd).length qc] 42)) := by go_simp
        generalize wC.alloc (.cells #[.slice pc (x ++ yd).length qc] 42) = wD at *
        obtain ⟨pE, qE, rfl⟩ := Own.slice hoE
        have Hst := Lib.hid (joJ_step Hond.out hlt5 hltD (by omega) (by omega) (by omega) (by omega) hbB (by omega) Hld.out Hdfd.out Hbkd.out Hokd.out Hvk.out Htk.out HBC.out HoC.out hoE hap)
        have HSE : Hid (Only (fun z => z = bo ∨ (Value.slice pk m ck).ownBlock = some z) wk wE) := Lib.hid ((Below.only HBC.out).trans ⟨hap.grown.os, hap.grown.tape, hap.grown.output, hap.grown.size, fun q hq hA => hap.grown.block q hq (fun e => hA (.inr e.symm))⟩)
        have HbE := Lib.hid (hap.blk (Hbkd.out.below HBC.out Hbkd.out.lt) (Own.ne_blk (Hokd.out.kept HBC.out).own (Hbkd.out.below HBC.out Hbkd.out.lt) (by decide)))
        have HBD := Lib.hid hBD
        have Hrun := Lib.hid hrun
        have Hbr2 := Lib.hid hbr2
        clear hBD hrun hbr2 hoE hap
        refine wpAnyH_ready (rs := [8]) (by kernel_rfl) (by simp) ?_
        refine allVal rfl (by kernel_rfl) (execBuild Hbr2.out rfl (by kernel_rfl)) (Below.only HBD.out) ?_ AllReadyH.nil
        try simp only [Act.put, List.getElem_toArray, List.getElem_cons_succ, List.getElem_cons_zero, List.setIfInBounds_toArray, List.set_cons_zero, List.set_cons_succ]
        refine wpAnyH_ready (rs := [9]) (by kernel_rfl) (by simp) ?_
        refine allVal rfl (by kernel_rfl) (execApp Hrun.out rfl (by kernel_rfl) (by kernel_rfl)) HSE.out ?_ AllReadyH.nil
        try simp only [Act.put, List.getElem_toArray, List.getElem_cons_succ, List.getElem_cons_zero, List.setIfInBounds_toArray, List.set_cons_zero, List.set_cons_succ]
        refine wpAnyH_ready (rs := [10]) (by kernel_rfl) (by simp) ?_
        refine allSkip (w' := wE.setCell ⟨bo, 0, none⟩ (.slice pE (hsk ++ [Value.slice pc (x ++ yd).length qc]).length qE)) rfl (by kernel_rfl) (by have kx := HbE.out.cells.c1; have kf := HbE.out.free 0; go_simp) (HSE.out.trans (Only.setCell (A := fun z => z = bo ∨ (Value.slice pk m ck).ownBlock = some z) wE (p := ⟨bo, 0, none⟩) (.inl rfl) _)) ?_ AllReadyH.nil
        try simp only [Act.put, List.getElem_toArray, List.getElem_cons_succ, List.getElem_cons_zero, List.setIfInBounds_toArray, List.set_cons_zero, List.set_cons_succ]
        refine wpAnyH_done (by kernel_rfl) ?_ _
        gi_wp2_with fail
        exact roundPost_normalR HRL.out Hst.out.1 (by first | exact ⟨rfl, Hst.out.2⟩ | exact .inl ⟨rfl, Hst.out.2⟩)
      · refine allCall (f := 87) (args := #[.slice (some ⟨wk.heap.size, 0, none⟩) 2 2]) rfl (by kernel_rfl) (by kernel_rfl) ?_ AllReadyH.nil
        refine ConcatVal_any lo hi l1 h1 wk.heap.size x yd _ _ wA (Sl.below R2.out Row1.loc HwoA.out (by omega)) (by omega) (Sl.below Hdyd.out Row1.loc HBA.out (by omega)) (by omega) HcA.out hltA (by omega) (by omega) _ (fun wC vc hBC0 hoC0 => ?_)
        obtain ⟨pc, qc, rfl⟩ := Own.slice hoC0
        have HBC := Lib.hid (HBA.out.trans (hBC0.mono hzA))
        have HoC := Lib.hid (Own.lower hoC0 hzA)
        have hzC := HBC.out.size
        refine ⟨_, rfl, Below.only HBC.out, ?_⟩
        clear hBC0 hoC0
        try simp only [Act.put, List.getElem_toArray, List.getElem_cons_succ, List.getElem_cons_zero, List.setIfInBounds_toArray, List.set_cons_zero, List.set_cons_succ]
        obtain ⟨vE, wE, hrun, hoE, hap⟩ := appH1 (Hokd.out.kept HBC.out).own pc (x ++ yd).length qc (n := wC.heap.size) rfl (by rw [Hk3.out]; omega) (by omega)
        have hBD := HBC.out.trans ((alloc_below wC (.cells #[.slice pc (x ++ yd).length qc] 42)).mono hzC)
        have hbr2 : (Instr.buildSlice 32 1 #[(0, .slice pc (x ++ yd).length qc)]).run Try.prog wC = .ok (.slice (some ⟨wC.heap.size, 0, none⟩) 1 1) (wC.alloc (.cells #[.slice pc (x ++ yd).length qc] 42)) := by go_simp
        generalize wC.alloc (.cells #[.slice pc (x ++ yd).length qc] 42) = wD at *
        obtain ⟨pE, qE, rfl⟩ := Own.slice hoE
        have Hst := Lib.hid (joJ_step Hond.out hlt5 hltD (by omega) (by omega) (by omega) (by omega) hbB (by omega) Hld.out Hdfd.out Hbkd.out Hokd.out Hvk.out Htk.out HBC.out HoC.out hoE hap)
        have HSE : Hid (Only (fun z => z = bo ∨ (Value.slice pk m ck).ownBlock = some z) wk wE) := Lib.hid ((Below.only HBC.out).trans ⟨hap.grown.os, hap.grown.tape, hap.grown.output, hap.grown.size, fun q hq hA => hap.grown.block q hq (fun e => hA (.inr e.symm))⟩)
        have HbE := Lib.hid (hap.blk (Hbkd.out.below HBC.out Hbkd.out.lt) (Own.ne_blk (Hokd.out.kept HBC.out).own (Hbkd.out.below HBC.out Hbkd.out.lt) (by decide)))
        have HBD := Lib.hid hBD
        have Hrun := Lib.hid hrun
        have Hbr2 := Lib.hid hbr2
        clear hBD hrun hbr2 hoE hap
        refine wpAnyH_ready (rs := [0, 8]) (by kernel_rfl) (by simp) ?_
        refine allVal (v := .slice pk m ck) (w' := wC) rfl (by kernel_rfl) (by have kx := (Hbkd.out.below HBC.out Hbkd.out.lt).cells.c1; go_simp) (Below.only HBC.out) ?_ ?_
        · try simp only [Act.put, List.getElem_toArray, List.getElem_cons_succ, List.getElem_cons_zero, List.setIfInBounds_toArray, List.set_cons_zero, List.set_cons_succ]
          refine wpAnyH_ready (rs := [8]) (by kernel_rfl) (by simp) ?_
          refine allVal rfl (by kernel_rfl) (execBuild Hbr2.out rfl (by kernel_rfl)) (Below.only HBD.out) ?_ AllReadyH.nil
          try simp only [Act.put, List.getElem_toArray, List.getElem_cons_succ, List.getElem_cons_zero, List.setIfInBounds_toArray, List.set_cons_zero, List.set_cons_succ]
          refine wpAnyH_ready (rs := [9]) (by kernel_rfl) (by simp) ?_
          refine allVal rfl (by kernel_rfl) (execApp Hrun.out rfl (by kernel_rfl) (by kernel_rfl)) HSE.out ?_ AllReadyH.nil
          try simp only [Act.put, List.getElem_toArray, List.getElem_cons_succ, List.getElem_cons_zero, List.setIfInBounds_toArray, List.set_cons_zero, List.set_cons_succ]
          refine wpAnyH_ready (rs := [10]) (by kernel_rfl) (by simp) ?_
          refine allSkip (w' := wE.setCell ⟨bo, 0, none⟩ (.slice pE (hsk ++ [Value.slice pc (x ++ yd).length qc]).length qE)) rfl (by kernel_rfl) (by have kx := HbE.out.cells.c1; have kf := HbE.out.free 0; go_simp) (HSE.out.trans (Only.setCell (A := fun z => z = bo ∨ (Value.slice pk m ck).ownBlock = some z) wE (p := ⟨bo, 0, none⟩) (.inl rfl) _)) ?_ AllReadyH.nil
          try simp only [Act.put, List.getElem_toArray, List.getElem_cons_succ, List.getElem_cons_zero, List.setIfInBounds_toArray, List.set_cons_zero, List.set_cons_succ]
          refine wpAnyH_done (by kernel_rfl) ?_ _
          gi_wp2_with fail
          exact roundPost_normalR HRL.out Hst.out.1 (by first | exact ⟨rfl, Hst.out.2⟩ | exact .inl ⟨rfl, Hst.out.2⟩)
        · refine allVal rfl (by kernel_rfl) (execBuild Hbr2.out rfl (by kernel_rfl)) (Below.only HBD.out) ?_ AllReadyH.nil
          try simp only [Act.put, List.getElem_toArray, List.getElem_cons_succ, List.getElem_cons_zero, List.setIfInBounds_toArray, List.set_cons_zero, List.set_cons_succ]
          refine wpAnyH_ready (rs := [0]) (by kernel_rfl) (by simp) ?_
          refine allVal (v := .slice pk m ck) (w' := wD) rfl (by kernel_rfl) (by have kx := (Hbkd.out.below HBD.out Hbkd.out.lt).cells.c1; go_simp) (Below.only HBD.out) ?_ AllReadyH.nil
          try simp only [Act.put, List.getElem_toArray, List.getElem_cons_succ, List.getElem_cons_zero, List.setIfInBounds_toArray, List.set_cons_zero, List.set_cons_succ]
          refine wpAnyH_ready (rs := [9]) (by kernel_rfl) (by simp) ?_
          refine allVal rfl (by kernel_rfl) (execApp Hrun.out rfl (by kernel_rfl) (by kernel_rfl)) HSE.out ?_ AllReadyH.nil
          try simp only [Act.put, List.getElem_toArray, List.getElem_cons_succ, List.getElem_cons_zero, List.setIfInBounds_toArray, List.set_cons_zero, List.set_cons_succ]
          refine wpAnyH_ready (rs := [10]) (by kernel_rfl) (by simp) ?_
          refine allSkip (w' := wE.setCell ⟨bo, 0, none⟩ (.slice pE (hsk ++ [Value.slice pc (x ++ yd).length qc]).length qE)) rfl (by kernel_rfl) (by have kx := HbE.out.cells.c1; have kf := HbE.out.free 0; go_simp) (HSE.out.trans (Only.setCell (A := fun z => z = bo ∨ (Value.slice pk m ck).ownBlock = some z) wE (p := ⟨bo, 0, none⟩) (.inl rfl) _)) ?_ AllReadyH.nil
          try simp only [Act.put, List.getElem_toArray, List.getElem_cons_succ, List.getElem_cons_zero, List.setIfInBounds_toArray, List.set_cons_zero, List.set_cons_succ]
          refine wpAnyH_done (by kernel_rfl) ?_ _
          gi_wp2_with fail
          exact roundPost_normalR HRL.out Hst.out.1 (by first | exact ⟨rfl, Hst.out.2⟩ | exact .inl ⟨rfl, Hst.out.2⟩)
  case hend =>
    rw [hT]
    rintro e W6 ⟨⟨v', rfl⟩, hJ | hf⟩
    · refine ⟨⟨v', rfl⟩, .ready, none, by simp, hJ.lp, ?_⟩
      have hlt := heap_lt hJ.lp
      have h7 : Only (· = W4.heap.size + 1) W6 (W6.putObj (W4.heap.size + 1) (.loop (RL .exhausted none))) := Only.putObj (A := (· = W4.heap.size + 1)) _ (b := W4.heap.size + 1) rfl _
      show Exit.inBlock 2 _ Exit.normal _ (W6.putObj (W4.heap.size + 1) (.loop (RL .exhausted none)))
      generalize W6.putObj (W4.heap.size + 1) (.loop (RL .exhausted none)) = W7 at *
      obtain ⟨v7, hs7, hb7, ho7, hv7⟩ := hJ.out
      rw [List.take_length] at ho7
      have hon := Only.into (A := fun z => z = bo ∨ v.ownBlock = some z) HBw5.out rfl (hJ.on.trans (h7.mono (fun z _ hz => .inr (.inl hz)))) (fun z hz h => by
        rcases h with h | h | h
        · exact .inl h
        · omega
        · exact .inr h)
      have hk := Hn.out W7 v7 hs7 W4.heap.size hon (h7.blk hb7 (by omega)) (ho7.turn hJ.lp rfl h7) (by
        rcases hv7 with e | h
        · exact .inl e
        · exact .inr (fun q hq => by have := h q hq; omega)) (by omega) ((h7.block _ (heap_lt hJ.df) (by omega)).trans hJ.df)
      exact hk _ _ _ _ _ _ _ _ _ _ _ _ _ _ _ _ _ _ _ _ _ _ _ _ _ _
    · exact hf.elim

end Go.Proofs.Ytpncblagjkbemaa
end

/- Join. (Printed by meh.py.) -/
section
set_option linter.unusedVariables false
set_option linter.unusedSimpArgs false
namespace Go.Proofs.Ytpncblagjkbemaa
open Go.RowKit Go.Shelf
set_option linter.unusedVariables false
set_option linter.unusedSimpArgs false
attribute [local go_sem] Oper.semAt_some

def joinCols (ac bc : List S) : List S := ac ++ restC ac bc
def joinL (ac : List S) (la : List (List V)) (bc : List S) (lb : List (List V)) : List (List V) := la.flatMap fun x => (lb.filter (agreeR ac bc x)).map fun y => x ++ pickL y (placesL (restC ac bc) bc)
def joinErr (ac : List S) (la : List (List V)) (bc : List S) (lb : List (List V)) : Int := if mayRel ac la && mayRel bc lb then madeErr (joinCols ac bc) (joinL ac la bc lb) else 2
/-- What the loops gather. -/
def joinRaw (la ys : List (List V)) (at' : List Int) : List (List V) := la.flatMap fun x => joinT x at'.length (agreeL ys (pickL x at'))
theorem pick_drop (ac bc : List S) (y : List V) : (pickL y (placesL (commonC ac bc ++ restC ac bc) bc)).drop (commonC ac bc).length = pickL y (placesL (restC ac bc) bc) := by
  rw [places_append, pick_append]
  have e : (pickL y (placesL (commonC ac bc) bc)).length = (commonC ac bc).length := pick_len' _ _ _
  rw [← e, List.drop_left]
theorem join_mem {ac bc : List S} {la lb ys : List (List V)} (hp : ys.Perm (lb.map fun y => pickL y (placesL (commonC ac bc ++ restC ac bc) bc))) (z : List V) :
    z ∈ joinRaw la ys (placesL (commonC ac bc) ac) ↔ z ∈ joinL ac la bc lb := by
  have hn : (placesL (commonC ac bc) ac).length = (commonC ac bc).length := by unfold placesL; simp
  have hl : ∀ x, (pickL x (placesL (commonC ac bc) ac)).length = (commonC ac bc).length := fun x => pick_len' _ _ _
  unfold joinRaw joinL joinT agreeL
  simp only [List.mem_flatMap, List.mem_map, List.mem_filter, hn, hl]
  constructor
  · rintro ⟨x, hx, y', ⟨hy', ha⟩, rfl⟩
    obtain ⟨y, hy, rfl⟩ := List.mem_map.1 (hp.mem_iff.1 hy')
    rw [pick_take] at ha
    exact ⟨x, hx, y, ⟨hy, ha⟩, by rw [pick_drop]⟩
  · rintro ⟨x, hx, y, ⟨hy, ha⟩, rfl⟩
    exact ⟨x, hx, _, ⟨hp.mem_iff.2 (List.mem_map.2 ⟨y, hy, rfl⟩), by rw [pick_take]; exact ha⟩, by rw [pick_drop]⟩
theorem join_same {ac bc : List S} {la lb ys : List (List V)} (hp : ys.Perm (lb.map fun y => pickL y (placesL (commonC ac bc ++ restC ac bc) bc))) :
    relCanon (joinRaw la ys (placesL (commonC ac bc) ac)) = relCanon (joinL ac la bc lb) := canon_one cmpR_cmp (join_mem hp)
theorem madeErr_same {cols : List S} {xs ys : List (List V)} (h : relCanon xs = relCanon ys) : madeErr cols xs = madeErr cols ys := by unfold madeErr; rw [h]
theorem joinT_len (x : List V) (n : Nat) (T : List (List V)) : (joinT x n T).length = T.length := by simp [joinT]
theorem joinRaw_take (la ys : List (List V)) (at' : List Int) (i : Nat) (h : i < la.length) : joinRaw (la.take (i + 1)) ys at' = joinRaw (la.take i) ys at' ++ joinT la[i] at'.length (agreeL ys (pickL la[i] at')) := by
  unfold joinRaw
  rw [List.take_succ_eq_append_getElem h, List.flatMap_append]
  simp
theorem joinRaw_len (la ys : List (List V)) (at' : List Int) : (joinRaw la ys at').length ≤ la.length * ys.length := by
  unfold joinRaw
  induction la with
  | nil => simp
  | cons a r ih =>
    rw [List.flatMap_cons, List.length_append, joinT_len, List.length_cons, Nat.succ_mul]
    have : (agreeL ys (pickL a at')).length ≤ ys.length := List.length_filter_le _ _
    omega
/-! ### the way out: marks -/
theorem marks_leave {F : Fence} {n : Nat} {P : Program} {fn : Func} {tmps : Array Value} {R : Ending → World → Prop} : ∀ (Ds : List Nat) (w : World), Ds.Nodup → (∀ D ∈ Ds, w.heap[D]? = some (.deferred (some []))) →
    (∀ w', Only (· ∈ Ds) w w' → LeavesIn F n P fn tmps R [] .returning w') → LeavesInM F n P fn tmps R (Ds.map markD) .returning w
  | [], w, _, _, h => h w (Only.refl _ _)
  | D :: Ds, w, hn, hd, h => by
    obtain ⟨h1, h2⟩ := List.nodup_cons.1 hn
    refine ⟨by simp, .inl ⟨D, w.putObj D (.deferred none), rfl, run_takeDeferred (hd D (by simp)), ?_⟩⟩
    have hp : Only (· ∈ D :: Ds) w (w.putObj D (.deferred none)) := Only.putObj (A := (· ∈ D :: Ds)) w (b := D) (by simp) _
    refine marks_leave Ds _ h2 (fun D' hD' => (World.putObj_heap_other (by rintro rfl; exact h1 hD')).trans (hd D' (by simp [hD']))) (fun w' ho => h w' (hp.trans (ho.mono (fun k _ hk => List.mem_cons_of_mem _ hk))))
theorem Own.turns {α : Type} {enc : α → List Value} {e : TypeId} {size lo : Nat} {w w' : World} {v : Value} {xs : List α} {A : Nat → Prop} (h : Own enc e size lo w v xs) (hA : ∀ D, A D → ∃ o, w.heap[D]? = some o ∧ o.isCells = false) (hO : Only A w w') : Own enc e size lo w' v xs :=
  Own.same h (fun g e => hO.block g (Own.lt h g e).2 (fun e2 => by obtain ⟨o, h1, h2⟩ := hA g e2; exact Own.ne_def h h1 h2 e))
theorem OwnR.turns {lo : Nat} {w w' : World} {v : Value} {hs : List Value} {xs : List (List V)} {A : Nat → Prop} (h : OwnR lo w v hs xs) (hA : ∀ D, A D → ∃ o, w.heap[D]? = some o ∧ o.isCells = false) (hO : Only A w w') : OwnR lo w' v hs xs :=
  ⟨Own.turns h.own hA hO, h.len, fun i hi h2 => Own.turns (h.row i hi h2) hA hO, h.apart⟩
theorem Blk.turns {w w' : World} {b : Nat} {cs : List Value} {t : TypeId} {A : Nat → Prop} (h : Blk w b cs t) (hA : ∀ D, A D → ∃ o, w.heap[D]? = some o ∧ o.isCells = false) (hO : Only A w w') : Blk w' b cs t :=
  hO.blk h (fun hb => by
    obtain ⟨o, h1, h2⟩ := hA b hb
    unfold Blk at h
    rw [h] at h1
    injection h1 with h1
    subst h1
    cases h2)
/-- The end of Join: its result cells are written, the marks are taken, the cells read. -/
theorem joinTail {n : Nat} {fn : Func} {tmps : Array Value} {w w5 : World} {b4 b5 : Nat} {pc pr : Option Addr} {nc nr qc qr : Nat} {x0 x1 y0 : Value} {cols : List S} {xs : List (List V)} {hs : List Value} {err : Int} {Ds : List Nat} {R : Ending → World → Prop} (hfn : fn.results = #[.cell 4 34, .cell 5 25])
    (ht4 : tmps.getD 4 undef = .pointer (some ⟨b4, 0, none⟩)) (ht5 : tmps.getD 5 undef = .pointer (some ⟨b5, 0, none⟩)) (hb4 : Blk w5 b4 [x0, x1] 34) (hb5 : Blk w5 b5 [y0] 25) (h45 : b4 ≠ b5) (hlo4 : w.heap.size ≤ b4) (hlo5 : w.heap.size ≤ b5) (hB : Below w.heap.size w w5)
    (hT : OwnT w.heap.size w5 (.slice pc nc qc) cols) (hR : OwnR w.heap.size w5 (.slice pr nr qr) hs xs) (hnd : Ds.Nodup) (hds : ∀ D ∈ Ds, w.heap.size ≤ D ∧ w5.heap[D]? = some (.deferred (some [])))
    (hRR : ∀ w' cv2 lv2 hs, Below w.heap.size w w' → OwnT w.heap.size w' cv2 cols → OwnR w.heap.size w' lv2 hs xs → R (.returned (.tuple #[.agg #[cv2, lv2], .int .i64 err])) w') :
    LeavesInM Fence.wide n Try.prog fn tmps R (Ds.map markD) .returning (((w5.setCell ⟨b4, 0, none⟩ (.slice pc nc qc)).setCell ⟨b4, 1, none⟩ (.slice pr nr qr)).setCell ⟨b5, 0, none⟩ (.int .i64 err)) := by
  obtain ⟨t1, t2, t3, -⟩ := relTail hb4 hlo4 hB hT hR
  have k4 := (hb4.set 0 (.slice pc nc qc)).set 1 (.slice pr nr qr)
  have k5 := (hb5.other (p := ⟨b4, 0, none⟩) (Ne.symm h45) (.slice pc nc qc)).other (p := ⟨b4, 1, none⟩) (Ne.symm h45) (.slice pr nr qr)
  have kD : ∀ D ∈ Ds, ((w5.setCell ⟨b4, 0, none⟩ (.slice pc nc qc)).setCell ⟨b4, 1, none⟩ (.slice pr nr qr)).heap[D]? = some (.deferred (some [])) := fun D hD => by
    have hne : D ≠ b4 := by
      rintro rfl
      have := (hds _ hD).2
      unfold Blk at hb4
      rw [hb4] at this
      cases this
    exact ((Below.heap_setCell _ _ _ _ hne).trans (Below.heap_setCell _ _ _ _ hne)).trans (hds D hD).2
  generalize (w5.setCell ⟨b4, 0, none⟩ (.slice pc nc qc)).setCell ⟨b4, 1, none⟩ (.slice pr nr qr) = w6 at *
  have m5 := k5.set 0 (.int .i64 err)
  have m4 := k4.other (p := ⟨b5, 0, none⟩) h45 (.int .i64 err)
  have mT := Own.setOther t2 (p := ⟨b5, 0, none⟩) (Own.ne_blk t2 k5 (by decide)) (.int .i64 err)
  have mR := t3.setBlk k5 (by decide) (by decide) 0 (.int .i64 err)
  have mB := t1.setCell (p := ⟨b5, 0, none⟩) hlo5 (.int .i64 err)
  have mD : ∀ D ∈ Ds, (w6.setCell ⟨b5, 0, none⟩ (.int .i64 err)).heap[D]? = some (.deferred (some [])) := fun D hD => by
    have hne : D ≠ b5 := by
      rintro rfl
      have := kD _ hD
      unfold Blk at k5
      rw [k5] at this
      cases this
    exact (Below.heap_setCell _ _ _ _ hne).trans (kD D hD)
  generalize w6.setCell ⟨b5, 0, none⟩ (.int .i64 err) = w7 at *
  refine marks_leave Ds w7 hnd mD (fun w' ho => ?_)
  have hA : ∀ D, D ∈ Ds → ∃ o, w7.heap[D]? = some o ∧ o.isCells = false := fun D hD => ⟨_, mD D hD, rfl⟩
  exact ⟨_, results_cells hfn ht4 ht5 ((m4.turns hA ho).cells.runVar (fun _ => by kernel_rfl) (fun _ => by kernel_rfl)) ((m5.turns hA ho).cells.runVar1 (fun _ => by kernel_rfl)),
    hRR w' _ _ _ (mB.trans (ho.below mB.size (fun D hD => (hds D hD).1))) (mT.turns hA ho) (mR.turns hA ho)⟩

end Go.Proofs.Ytpncblagjkbemaa
end

/- Join's outer loop. (Printed by mei.py.) -/
section
set_option linter.unusedVariables false
set_option linter.unusedSimpArgs false
namespace Go.Proofs.Ytpncblagjkbemaa
open Go.RowKit Go.Shelf
set_option linter.unusedVariables false
set_option linter.unusedSimpArgs false
attribute [local go_sem] Oper.semAt_some

noncomputable def blkL : Code := ((Try.f41.body.bind (findBlock 0)).getD .skip)
set_option maxRecDepth 1000000 in
set_option maxHeartbeats 16000000 in
theorem joinLoop (lo hi l1 h1 l2 h2 b9 bo : Nat) (la l : List (List V)) (pa pl : Option Addr) (ca cl : Nat) (at' : List Int) (va : Value) (wB : World)
    (hla : Rws lo hi wB (.slice pa la.length ca) la) (hhi : hi ≤ bo) (hl : Rws l1 h1 wB (.slice pl l.length cl) l) (hh1 : h1 ≤ bo) (hat : Ints l2 h2 wB va at') (hh2 : h2 ≤ bo)
    (h9 : Blk wB b9 [va] 84) (h9b : b9 < bo) (hbo : Blk wB bo [.slice none 0 0] 32)
    (hup : l.Pairwise fun a b => 0 ≤ cmpR b a) (hln : ∀ y ∈ l, at'.length ≤ y.length) (hlen : l.length ≤ 1000000000) (hok : ∀ x ∈ la, AtOk x.length at') (hal : at'.length ≤ 1000000) (hxl : ∀ x ∈ la, x.length ≤ 1000000) (hyl : ∀ y ∈ l, y.length ≤ 1000000)
    (hll : la.length ≤ 1000000000) (hprod : la.length * l.length < 100000) (K P : Act → World → Prop) (c0 c1 c2 c3 c4 c5 c6 c7 c8 c10 c16 c17 c18 c19 c20 c21 c22 c23 c24 c25 c26 c27 c28 c29 c30 c31 c32 c33 c34 c35 c36 c37 c38 c39 c40 c41 c42 c43 c44 c45 c46 c47 c48 c49 c50 c51 c79 c80 c81 c82 c83 u13 u14 u15 u55 u56 u57 u58 u59 u60 u61 u62 u63 u64 u65 u66 u67 u68 u69 u70 u71 u72 u73 u74 u75 u76 u77 u78 : Value)
    (hn : ∀ (w' : World) (v' : Value) (hs' : List Value) (Ds : List Nat), Only (· = bo) wB w' → Blk w' bo [v'] 32 → OwnR wB.heap.size w' v' hs' (joinRaw la l at') → Ds.Nodup → (∀ D ∈ Ds, wB.heap.size ≤ D ∧ w'.heap[D]? = some (.deferred (some []))) →
      ∀ z13 z14 z15 z54 z55 z56 z57 z58 z59 z60 z61 z62 z63 z64 z65 z66 z67 z68 z69 z70 z71 z72 z73 z74 z75 z76 z77 z78 : Value, K ⟨#[c0, c1, c2, c3, c4, c5, c6, c7, c8, .pointer (some ⟨b9, 0, none⟩), c10, .slice pl l.length cl, .pointer (some ⟨bo, 0, none⟩), z13, z14, z15, c16, c17, c18, c19, c20, c21, c22, c23, c24, c25, c26, c27, c28, c29, c30, c31, c32, c33, c34, c35, c36, c37, c38, c39, c40, c41, c42, c43, c44, c45, c46, c47, c48, c49, c50, c51, .slice pa la.length ca, .int .i64 (la.length : Int), z54, z55, z56, z57, z58, z59, z60, z61, z62, z63, z64, z65, z66, z67, z68, z69, z70, z71, z72, z73, z74, z75, z76, z77, z78, c79, c80, c81, c82, c83], Ds.map markD⟩ w') :
    Code.wp Try.prog blkL (Exit.then K (onRet P)) ⟨#[c0, c1, c2, c3, c4, c5, c6, c7, c8, .pointer (some ⟨b9, 0, none⟩), c10, .slice pl l.length cl, .pointer (some ⟨bo, 0, none⟩), u13, u14, u15, c16, c17, c18, c19, c20, c21, c22, c23, c24, c25, c26, c27, c28, c29, c30, c31, c32, c33, c34, c35, c36, c37, c38, c39, c40, c41, c42, c43, c44, c45, c46, c47, c48, c49, c50, c51, .slice pa la.length ca, .int .i64 (la.length : Int), .int .i64 0, u55, u56, u57, u58, u59, u60, u61, u62, u63, u64, u65, u66, u67, u68, u69, u70, u71, u72, u73, u74, u75, u76, u77, u78, c79, c80, c81, c82, c83], []⟩ wB := by
  have Hn := Lib.hid hn
  have Hla := Lib.hid hla
  have Hl := Lib.hid hl
  have Hat := Lib.hid hat
  have H9 := Lib.hid h9
  have Hbo := Lib.hid hbo
  have Hup := Lib.hid hup
  have Hln := Lib.hid hln
  have Hok := Lib.hid hok
  have Hxl := Lib.hid hxl
  have Hyl := Lib.hid hyl
  have hbol := hbo.lt
  clear hn hla hl hat h9 hbo hup hln hok hxl hyl
  conv => arg 2; whnf
  go_wp2_with fail
  refine wp_loop (fun a wr => ∃ (i : Nat) (v : Value) (hs : List Value) (Ds : List Nat), ∃ u13 u14 u15 u55 u56 u57 u58 u59 u60 u61 u62 u63 u64 u65 u66 u67 u68 u69 u70 u71 u72 u73 u74 u75 u76 u77 u78 : Value, (i ≤ la.length ∧ Only (· = bo) wB wr ∧ Blk wr bo [v] 32 ∧ OwnR wB.heap.size wr v hs (joinRaw (la.take i) l at') ∧ Ds.Nodup ∧ ∀ D ∈ Ds, wB.heap.size ≤ D ∧ wr.heap[D]? = some (.deferred (some []))) ∧
    a = ⟨#[c0, c1, c2, c3, c4, c5, c6, c7, c8, .pointer (some ⟨b9, 0, none⟩), c10, .slice pl l.length cl, .pointer (some ⟨bo, 0, none⟩), u13, u14, u15, c16, c17, c18, c19, c20, c21, c22, c23, c24, c25, c26, c27, c28, c29, c30, c31, c32, c33, c34, c35, c36, c37, c38, c39, c40, c41, c42, c43, c44, c45, c46, c47, c48, c49, c50, c51, .slice pa la.length ca, .int .i64 (la.length : Int), .int .i64 ((i : Nat) : Int), u55, u56, u57, u58, u59, u60, u61, u62, u63, u64, u65, u66, u67, u68, u69, u70, u71, u72, u73, u74, u75, u76, u77, u78, c79, c80, c81, c82, c83], Ds.map markD⟩) (fun a _ => la.length - (intOf (a.tmps.getD 54 undef)).toNat) ?_ ?_
  · exact ⟨0, .slice none 0 0, [], [], _, _, _, _, _, _, _, _, _, _, _, _, _, _, _, _, _, _, _, _, _, _, _, _, _, _, _, ⟨Nat.zero_le _, Only.refl _ _, Hbo.out, by simpa [joinRaw] using OwnR.nil _ _, List.nodup_nil, fun D hD => by cases hD⟩, rfl⟩
  rintro a wr ⟨i, v, hs, Ds, u13, u14, u15, u55, u56, u57, u58, u59, u60, u61, u62, u63, u64, u65, u66, u67, u68, u69, u70, u71, u72, u73, u74, u75, u76, u77, u78, ⟨hi', hon, hbk, hown, hnd, hds⟩, rfl⟩
  dsimp only
  have Hon := Lib.hid hon
  have Hbk := Lib.hid hbk
  have Hown := Lib.hid hown
  have Hnd := Lib.hid hnd
  have Hds := Lib.hid hds
  have hzr := hon.size
  have HBr := Lib.hid (hon.below (B := bo) (by omega) (fun k e => by have : k = bo := e; omega))
  have ii0 : (0 : Int) ≤ (i : Int) := by omega
  clear hon hbk hown hnd hds
  by_cases hlt : i < la.length
  · have iil : (i : Int) < (la.length : Int) := by omega
    go_upto_block 1 with fail
    have hcap : (joinRaw (la.take i) l at').length + l.length < 100000 := by
      have h1 := joinRaw_len (la.take i) l at'
      rw [List.length_take, Nat.min_eq_left hi'] at h1
      have h2 : (i + 1) * l.length ≤ la.length * l.length := Nat.mul_le_mul_right _ hlt
      rw [Nat.succ_mul] at h2
      omega
    refine wp_onRet ?_
    refine joinRound lo hi l1 h1 l2 h2 b9 bo wB.heap.size i la l pa pl ca cl at' va v hs (joinRaw (la.take i) l at') wr (Sl.below Hla.out rowE_loc HBr.out hhi) hhi (Sl.below Hl.out rowE_loc HBr.out hh1) hh1 (Sl.below Hat.out Ints.loc HBr.out hh2) hh2 (H9.out.below HBr.out h9b) h9b Hbk.out hbol hzr Hown.out Hup.out Hln.out hlen Hok.out hal Hxl.out Hyl.out hlt hll hcap _ _ _ _ _ _ _ _ _ _ _ _ _ _ _ _ _ _ _ _ _ _ _ _ _ _ _ _ _ _ _ _ _ _ _ _ _ _ _ _ _ _ _ _ _ _ _ _ _ _ _ _ _ _ _ _ _ _ _ _ _ _ _ _ _ _ _ _ _ _ _ _ _ _ _ _ _ _ _ _ _ _ ?_
    intro w' v' hs' D hO hb ho hv hD hd x13 x14 x15 x55 x56 x57 x58 x59 x60 x61 x62 x63 x64 x65 x66 x67 x68 x69 x70 x71 x72 x73 x74 x75 x76 x77
    have htk := joinRaw_take la l at' i hlt
    rw [← htk] at ho
    have hoB : Only (· = bo) wB w' := Only.into2 Hon.out hO (fun z hz h => by
      rcases h with h | h
      · exact h
      · have := (Own.lt Hown.out.own z h).1; omega)
    have hdd : ∀ D' ∈ D :: Ds, wB.heap.size ≤ D' ∧ w'.heap[D']? = some (.deferred (some [])) := by
      intro D' hD'
      rcases List.mem_cons.1 hD' with rfl | hD'
      · exact ⟨by omega, hd⟩
      · obtain ⟨g1, g2⟩ := Hds.out D' hD'
        refine ⟨g1, (hO.block D' (heap_lt g2) (fun h => ?_)).trans g2⟩
        rcases h with h | h
        · omega
        · exact Own.ne_def Hown.out.own g2 rfl h
    have hnd' : (D :: Ds).Nodup := List.nodup_cons.2 ⟨fun h => by have := heap_lt (Hds.out D h).2; omega, Hnd.out⟩
    have HO := Lib.hid hoB
    have Hb := Lib.hid hb
    have Ho := Lib.hid ho
    have Hdd := Lib.hid hdd
    have Hnd' := Lib.hid hnd'
    clear hO hb ho hv hD hd htk hoB hdd hnd' hcap
    go_wp2_with fail
    refine ⟨⟨i + 1, v', hs', D :: Ds, _, _, _, _, _, _, _, _, _, _, _, _, _, _, _, _, _, _, _, _, _, _, _, _, _, _, _, ⟨hlt, HO.out, Hb.out, Ho.out, Hnd'.out, Hdd.out⟩, rfl⟩, ?_⟩
    simp [intOf]
    omega
  · have hie : i = la.length := by omega
    subst hie
    have iil : ¬ ((la.length : Int) < (la.length : Int)) := by omega
    go_wp2_with fail
    exact Hn.out wr v hs Ds Hon.out Hbk.out (by have := Hown.out; rwa [List.take_length] at this) Hnd.out Hds.out _ _ _ _ _ _ _ _ _ _ _ _ _ _ _ _ _ _ _ _ _ _ _ _ _ _ _ _

end Go.Proofs.Ytpncblagjkbemaa
end

/- The program's Select. (Printed by rowsl.py.) -/
section
set_option linter.unusedVariables false
set_option linter.unusedSimpArgs false
namespace Go.Proofs.Ytpncblagjkbemaa
open Go.RowKit
set_option linter.unusedVariables false
set_option linter.unusedSimpArgs false

def selErr (rc : List S) (l : List (List V)) (keep : Nat → Bool) : Int := if mayRel rc l then madeErr rc (keepL keep l) else 2
theorem Only.setNew {A : Nat → Prop} {w w' : World} (h : Only A w w') {b : Nat} (hb : w.heap.size ≤ b) (i : Nat) (u : Value) : Only A w (w'.setCell ⟨b, i, none⟩ u) :=
  ⟨h.os, h.tape, h.output, by rw [show (w'.setCell ⟨b, i, none⟩ u).heap.size = w'.heap.size by simp]; exact h.size, fun k hk hn => (Below.heap_setCell _ _ _ _ (show k ≠ b by omega)).trans (h.block k hk hn)⟩
theorem keepL_len (keep : Nat → Bool) (l : List (List V)) : (keepL keep l).length ≤ l.length := keepTo_len keep l l.length
theorem run_eql_func_nil (h : FuncId) (capt : Array Value) (w : World) : (binOp .eql 61 (.func (.func h) #[] capt) .nilFunc).run Try.prog w = .ok (.bool false) w := by
  have hh : ∀ d, (Op.equalIn (d + 1) 61 (.func (.func h) #[] capt) .nilFunc).run Try.prog w = .ok false w := fun d => by simp [Op.equalIn, run_underlying Try.underlying61]
  simp only [binOp]
  simp [Op.equal, Op.maxDepth, hh 9999]
set_option maxRecDepth 100000 in
set_option maxHeartbeats 4000000 in
theorem Select_any (lo hi lc hc : Nat) (rc : List S) (ac : Option Addr) (cc : Nat) (l : List (List V)) (lv : Value) (h : FuncId) (capt : Array Value) (keep : Nat → Bool) (A : Nat → Prop) (J : Nat → World → Prop) (w : World) (hrc : Strs lc hc w (.slice ac rc.length cc) rc) (hhc : hc ≤ w.heap.size) (hv : Rws lo hi w lv l) (hhi : hi ≤ w.heap.size)
    (he : ∀ args w, (callFunc h args).run Try.prog w = .ok (.enter h args) w) (hA1 : ∀ b, A b → b < w.heap.size) (hA2 : ∀ b, A b → b < lo ∨ hi ≤ b) (hA3 : ∀ b, A b → b < lc ∨ hc ≤ b) (hJ0 : J 0 w) (hJB : ∀ k w1 w2, J k w1 → Below w.heap.size w1 w2 → w.heap.size ≤ w1.heap.size → J k w2)
    (hu : ∀ k (hk : k < l.length) zlo zv w' R, J k w' → w.heap.size ≤ zlo → zlo ≤ w'.heap.size → OwnV zlo w' zv l[k] → (∀ w'', J (k + 1) w'' → Only (fun b => A b ∨ zv.ownBlock = some b) w' w'' → R (.returned (.bool (keep k))) w'') → Calls Try.prog h (#[zv] ++ capt) w' R)
    (R : Ending → World → Prop) (hR : ∀ w' cv2 lv2 hs, Only A w w' → J (if mayRel rc l then l.length else 0) w' → OwnT w.heap.size w' cv2 (okL (selErr rc l keep) rc) → OwnR w.heap.size w' lv2 hs (okL (selErr rc l keep) (relCanon (keepL keep l))) → R (.returned (.tuple #[.agg #[cv2, lv2], .int .i64 (selErr rc l keep)])) w') :
    Calls Try.prog 35 #[.agg #[.slice ac rc.length cc, lv], .func (.func h) #[] capt] w R := by
  have HR := Lib.hid hR
  have Hv := Lib.hid hv
  have Hrc := Lib.hid hrc
  have HA1 := Lib.hid hA1
  have HA2 := Lib.hid hA2
  have HA3 := Lib.hid hA3
  have HJB := Lib.hid hJB
  have Hu := Lib.hid hu
  obtain ⟨av, cv2, rfl, -, -, -, -⟩ := hv.form
  clear hR hv hrc hA1 hA2 hA3 hJB hu
  obtain ⟨wa, ewa⟩ : ∃ x, x = w.alloc (.cells #[.slice ac rc.length cc, .slice av l.length cv2] 34) := ⟨_, rfl⟩
  obtain ⟨wb, ewb⟩ : ∃ x, x = wa.alloc (.cells #[.func (.func h) #[] capt] 61) := ⟨_, rfl⟩
  obtain ⟨w2, ew2⟩ : ∃ x, x = wb.alloc (.cells #[.slice none 0 0, .slice none 0 0] 34) := ⟨_, rfl⟩
  have sa : wa.heap.size = w.heap.size + 1 := by rw [ewa]; simp
  have sb : wb.heap.size = w.heap.size + 1 + 1 := by rw [ewb]; simp [sa]
  have hBa : Below w.heap.size w wa := by rw [ewa]; exact alloc_below _ _
  have hBb : Below wa.heap.size wa wb := by rw [ewb]; exact alloc_below _ _
  have hBc : Below wb.heap.size wb w2 := by rw [ew2]; exact alloc_below _ _
  have hb1 : Blk wa w.heap.size [.slice ac rc.length cc, .slice av l.length cv2] 34 := by rw [ewa]; exact Blk.new w [.slice ac rc.length cc, .slice av l.length cv2] _ rfl
  have hb2 : Blk wb (w.heap.size + 1) [.func (.func h) #[] capt] 61 := by rw [ewb]; exact Blk.new wa [.func (.func h) #[] capt] _ sa.symm
  have hb3 : Blk w2 (w.heap.size + 1 + 1) [.slice none 0 0, .slice none 0 0] 34 := by rw [ew2]; exact Blk.new wb [.slice none 0 0, .slice none 0 0] _ sb.symm
  have hb1 := (hb1.below hBb hb1.lt).below hBc (by omega)
  have hb2 := hb2.below hBc hb2.lt
  have hB := hBa.trans ((hBb.mono hBa.size).trans (hBc.mono (by omega)))
  go_enter Try.func35, Try.ntmps35
  go_upto_region 1 with fail
  rw [← ewa, ← ewb, ← ew2]
  clear ewa ewb ew2 hBa hBb hBc sa sb
  have HB := Lib.hid hB
  have Hb1 := Lib.hid hb1
  have Hb2 := Lib.hid hb2
  have Hb3 := Lib.hid hb3
  have hz2 := hB.size
  have hl3 := hb3.lt
  obtain ⟨c0, c1⟩ := hb1.cells.c2
  simp only [Nat.zero_add] at c1
  clear hb1 hb2 hb3 hB
  go_wp2_with fail
  refine May_any lo hi lc hc rc _ _ l _ w2 (Sl.below Hrc.out Strs.loc HB.out hhc) (by omega) (Sl.below Hv.out rowE_loc HB.out hhi) (by omega) _ (fun w5 hB5 => ?_)
  have HB25 := Lib.hid hB5
  have hz5 := hB5.size
  have HB5 := Lib.hid (HB.out.trans (hB5.mono (by omega)))
  have hl5 : w.heap.size + 1 + 1 < w5.heap.size := by omega
  have Hbx := Lib.hid (Hb1.out.below hB5 (by omega))
  have Hbf := Lib.hid (Hb2.out.below hB5 (by omega))
  have Hbr := Lib.hid (Hb3.out.below hB5 hl3)
  clear hB5 c0 c1
  cases hm : mayRel rc l
  · obtain ⟨e0, e1⟩ := Hbr.out.cells.c2
    have f0 := Hbr.out.free 0
    have f1 := Hbr.out.free 1
    simp only [Nat.zero_add] at e1
    have he2 : selErr rc l keep = 2 := by unfold selErr; rw [hm]; rfl
    obtain ⟨t1, t2, t3, t4⟩ := relTail (pc := none) (pr := none) (qc := 0) (qr := 0) Hbr.out (show w.heap.size ≤ w.heap.size + 1 + 1 by omega) HB5.out (Own.nil _ _ _ _ _) (OwnR.nil _ _)
    have hr := HR.out _ _ _ [] (Below.only t1) (by rw [hm]; exact HJB.out _ _ _ hJ0 t1 (Nat.le_refl _)) (by rw [he2]; exact t2) (by rw [he2]; exact t3)
    rw [he2] at hr
    have Hr := Lib.hid hr
    have Ht := Lib.hid t4
    clear hm hr t1 t2 t3 t4 he2
    go_wp2_with fail
    exact ret_cell_tmp rfl rfl Ht.out rfl rfl Hr.out
  have hml := (may_many hm).1
  have Hml := Lib.hid (may_len hm)
  have hmc := (may_many hm).2
  have he2 : selErr rc l keep = madeErr rc (keepL keep l) := by unfold selErr; rw [hm]; rfl
  rw [he2, hm] at HR
  simp only [if_true] at HR
  clear he2 hm
  have cf := Hbf.out.cells.c1
  have hfn := run_eql_func_nil h capt
  go_upto_region 3 with fail
  have hS0 : Only (fun z => A z ∨ z = w.heap.size + 1 + 1) w5 w5.drew := Only.drew _
  refine wp_region_held_drew (S := fun w' => Only (fun z => A z ∨ z = w.heap.size + 1 + 1) w5 w') (by kernel_rfl) hS0 (fun hHeld => ?_)
  refine wpAnyH_take (i := 0) (v := .pointer (some ⟨w.heap.size, 0, none⟩)) rfl (by kernel_rfl) (by kernel_rfl) (by kernel_rfl) (fun _ _ _ h => h) (Or.inl ⟨by rfl, ?_⟩) hHeld ?_
  · intro w' hSw; go_simp
  try simp only [Act.put, List.getElem_toArray, List.getElem_cons_succ, List.getElem_cons_zero, List.setIfInBounds_toArray, List.set_cons_zero, List.set_cons_succ]
  refine wpAnyH_take (i := 1) (v := .slice ac rc.length cc) rfl (by kernel_rfl) (by kernel_rfl) (by kernel_rfl) (fun _ _ _ h => h) (Or.inl ⟨by rfl, ?_⟩) hHeld ?_
  · intro w' hSw; obtain ⟨z0, z1⟩ := (hSw.blk Hbx.out (fun h => h.elim (fun a => absurd (HA1.out _ a) (by omega)) (fun e => by omega))).cells.c2; simp only [Nat.zero_add] at z1; go_simp
  try simp only [Act.put, List.getElem_toArray, List.getElem_cons_succ, List.getElem_cons_zero, List.setIfInBounds_toArray, List.set_cons_zero, List.set_cons_succ]
  refine wpAnyH_take (i := 2) (v := .pointer (some ⟨w.heap.size, 1, none⟩)) rfl (by kernel_rfl) (by kernel_rfl) (by kernel_rfl) (fun _ _ _ h => h) (Or.inl ⟨by rfl, ?_⟩) hHeld ?_
  · intro w' hSw; go_simp
  try simp only [Act.put, List.getElem_toArray, List.getElem_cons_succ, List.getElem_cons_zero, List.setIfInBounds_toArray, List.set_cons_zero, List.set_cons_succ]
  refine wpAnyH_take (i := 3) (v := .slice av l.length cv2) rfl (by kernel_rfl) (by kernel_rfl) (by kernel_rfl) (fun _ _ _ h => h) (Or.inl ⟨by rfl, ?_⟩) hHeld ?_
  · intro w' hSw; obtain ⟨z0, z1⟩ := (hSw.blk Hbx.out (fun h => h.elim (fun a => absurd (HA1.out _ a) (by omega)) (fun e => by omega))).cells.c2; simp only [Nat.zero_add] at z1; go_simp
  try simp only [Act.put, List.getElem_toArray, List.getElem_cons_succ, List.getElem_cons_zero, List.setIfInBounds_toArray, List.set_cons_zero, List.set_cons_succ]
  refine wpAnyH_take (i := 4) (v := .func (.func 80) #[] #[.pointer (some ⟨w.heap.size + 1, 0, none⟩)]) rfl (by kernel_rfl) (by kernel_rfl) (by kernel_rfl) (fun _ _ _ h => h) (Or.inl ⟨by rfl, ?_⟩) hHeld ?_
  · intro w' hSw; go_simp
  try simp only [Act.put, List.getElem_toArray, List.getElem_cons_succ, List.getElem_cons_zero, List.setIfInBounds_toArray, List.set_cons_zero, List.set_cons_succ]
  refine wpAnyH_ready (rs := [5]) (by kernel_rfl) (by simp) ?_
  refine allCall (f := 71) (args := #[.slice av l.length cv2, .func (.func 80) #[] #[.pointer (some ⟨w.heap.size + 1, 0, none⟩)]]) rfl (by kernel_rfl) (by kernel_rfl) ?_ AllReadyH.nil
  have HBd : Hid (Below w.heap.size w w5.drew) := Lib.hid HB5.out.drew
  refine gatherJ_any lo hi l _ 80 #[.pointer (some ⟨w.heap.size + 1, 0, none⟩)] keep A (fun k w' => J k w' ∧ Blk w' (w.heap.size + 1) [.func (.func h) #[] capt] 61) w5.drew (Sl.below Hv.out rowE_loc HBd.out hhi) (by show hi ≤ w5.heap.size; omega) (by omega) (enters_of Try.func80 (by kernel_rfl) rfl) (fun b a => by have := HA1.out b a; show b < w5.heap.size; omega) HA2.out ⟨HJB.out _ _ _ hJ0 HBd.out (Nat.le_refl _), Hbf.out⟩ (fun k w1 w2 hJ hB hz => ⟨HJB.out _ _ _ hJ.1 (hB.mono (by show w.heap.size ≤ w5.heap.size; omega)) (by have : w5.heap.size ≤ w1.heap.size := hz; omega), hJ.2.below hB (by show w.heap.size + 1 < w5.heap.size; omega)⟩) (fun k hk xv w' R' hJ' hz' hx' hR' => ?_) _ (fun w6 v6 hs6 hO6 hJ6 h6 => ?_)
  · have hz5' : w5.heap.size ≤ w'.heap.size := hz'
    refine Select1_any lo hi (w.heap.size + 1) w5.heap.size l[k] xv h capt (keep k) A (fun w' => J k w' ∧ Blk w' (w.heap.size + 1) [.func (.func h) #[] capt] 61) (fun w' => J (k + 1) w' ∧ Blk w' (w.heap.size + 1) [.func (.func h) #[] capt] 61) w' hx' (by omega) (by rw [Hml.out _ (List.getElem_mem hk)]; omega) (by omega) (fun a => absurd (HA1.out _ a) (by omega)) hz5' (fun _ h => h.2) he (fun b a => by have := HA1.out b a; omega) HA2.out hJ'
      (fun w1 w2 hJ hB hz => ⟨HJB.out _ _ _ hJ.1 (hB.mono (by omega)) (by omega), hJ.2.below hB (by omega)⟩) (fun w1 w2 hJ hB hz => ⟨HJB.out _ _ _ hJ.1 (hB.mono (by omega)) (by omega), hJ.2.below hB (by omega)⟩)
      (fun zlo zv wz Rz hJz hlz hzz hoz hRz => Hu.out k hk zlo zv wz Rz hJz.1 (by omega) hzz hoz (fun w'' hJ1 hO1 => hRz w'' ⟨hJ1, hO1.blk hJz.2 (fun h => h.elim (fun a => absurd (HA1.out _ a) (by omega)) (fun e => by have := (Own.lt hoz _ e).1; omega))⟩ hO1)) R' (fun w'' yv hJ1 hO1 hoy => ?_)
    obtain ⟨a, c, e⟩ := Own.slice hoy
    exact hR' w'' yv hJ1 hO1 (fun _ => hoy) ⟨a, _, c, e⟩
  obtain ⟨p6, q6, e6⟩ := Own.slice h6.own
  subst e6
  have hO56 : Only A w5 w6 := (Only.drew w5).trans hO6
  have hHeld2 : Only (fun z => A z ∨ z = w.heap.size + 1 + 1) w5 w6 := hO56.mono (fun k _ h => .inl h)
  have HO56 := Lib.hid hO56
  have HJ6 := Lib.hid hJ6
  have H6 := Lib.hid h6
  have hz6 : w5.heap.size ≤ w6.heap.size := hO56.size
  refine ⟨_, rfl, hHeld2, ?_⟩
  clear hHeld hO6 hJ6 h6 hO56
  have hHeld := hHeld2
  clear hHeld2
  try simp only [Act.put, List.getElem_toArray, List.getElem_cons_succ, List.getElem_cons_zero, List.setIfInBounds_toArray, List.set_cons_zero, List.set_cons_succ]
  refine wpAnyH_ready (rs := [6]) (by kernel_rfl) (by simp) ?_
  refine allCall (f := 70) (args := #[.slice ac rc.length cc, .slice p6 hs6.length q6]) rfl (by kernel_rfl) (by kernel_rfl) ?_ AllReadyH.nil
  refine madeK_any w5.heap.size lc hc rc _ (keepL keep l) hs6 _ w6 (Sl.agree (Sl.below Hrc.out Strs.loc HB5.out hhc) Strs.loc (HO56.out.agree (by omega) HA3.out)) (by omega) hz6 H6.out (by have := keepL_len keep l; omega) _ (fun w7 cv7 lv7 hs7 hB7 hz7 hT7 hO7 => ?_)
  generalize hE : madeErr rc (keepL keep l) = err at *
  generalize okL err rc = oc at *
  generalize okL err (relCanon (keepL keep l)) = ol at *
  obtain ⟨p7, q7, rfl⟩ := Own.slice hT7
  obtain ⟨p8, q8, e8⟩ := Own.slice hO7.own
  rw [hO7.len] at e8
  subst e8
  have hO57 : Only A w5 w7 := ⟨hB7.os.trans HO56.out.os, hB7.tape.trans HO56.out.tape, hB7.output.trans HO56.out.output, by omega, fun k hk hn => (hB7.block k hk).trans (HO56.out.block k hk hn)⟩
  have hb7 := hO57.blk Hbr.out (fun a => absurd (HA1.out _ a) (by omega))
  obtain ⟨e0, e1⟩ := hb7.cells.c2
  have f0 := hb7.free 0
  have f1 := hb7.free 1
  simp only [Nat.zero_add] at e1
  have hOw7 : Only A w w7 := Only.into2 (Below.only HB5.out) hO57 (fun b _ a => a)
  have hJ7 := HJB.out _ _ _ HJ6.out.1 (hB7.mono (by omega)) (by omega)
  have hS8 : Below w.heap.size w7 ((w7.setCell ⟨w.heap.size + 1 + 1, 0, none⟩ (.slice p7 oc.length q7)).setCell ⟨w.heap.size + 1 + 1, 1, none⟩ (.slice p8 ol.length q8)) := ((Below.refl w.heap.size w7).setCell (p := ⟨w.heap.size + 1 + 1, 0, none⟩) (by show w.heap.size ≤ w.heap.size + 1 + 1; omega) _).setCell (p := ⟨w.heap.size + 1 + 1, 1, none⟩) (by show w.heap.size ≤ w.heap.size + 1 + 1; omega) _
  have hJ8 := HJB.out _ _ _ hJ7 hS8 (by omega)
  have t2 : OwnT w.heap.size ((w7.setCell ⟨w.heap.size + 1 + 1, 0, none⟩ (.slice p7 oc.length q7)).setCell ⟨w.heap.size + 1 + 1, 1, none⟩ (.slice p8 ol.length q8)) (.slice p7 oc.length q7) oc := Own.lower (Own.setOther (Own.setOther hT7 (p := ⟨w.heap.size + 1 + 1, 0, none⟩) (Own.ne_blk hT7 hb7 (by decide)) _) (p := ⟨w.heap.size + 1 + 1, 1, none⟩) (Own.ne_blk hT7 hb7 (by decide)) _) (by omega)
  have t3 : OwnR w.heap.size ((w7.setCell ⟨w.heap.size + 1 + 1, 0, none⟩ (.slice p7 oc.length q7)).setCell ⟨w.heap.size + 1 + 1, 1, none⟩ (.slice p8 ol.length q8)) (.slice p8 ol.length q8) hs7 ol := ((hO7.setBlk hb7 (by decide) (by decide) 0 _).setBlk (hb7.set 0 _) (by decide) (by decide) 1 _).lower (by omega)
  have t4 := ((hb7.set 0 (.slice p7 oc.length q7)).set 1 (.slice p8 ol.length q8)).cells.runVar (P := Try.prog) (t := 34) (fun _ => by kernel_rfl) (fun _ => by kernel_rfl)
  have hr := HR.out _ _ _ _ ((hOw7.setNew (show w.heap.size ≤ w.heap.size + 1 + 1 by omega) 0 _).setNew (show w.heap.size ≤ w.heap.size + 1 + 1 by omega) 1 _) hJ8 t2 t3
  have Hr := Lib.hid hr
  have Ht := Lib.hid t4
  have hHeld2 : Only (fun z => A z ∨ z = w.heap.size + 1 + 1) w5 w7 := hO57.mono (fun k _ h => .inl h)
  refine ⟨_, rfl, hHeld2, ?_⟩
  clear hHeld hr t2 t3 t4 hb7 hO57 hOw7 hJ7 hS8 hJ8 hT7 hO7 hB7
  have hHeld := hHeld2
  clear hHeld2
  try simp only [Act.put, List.getElem_toArray, List.getElem_cons_succ, List.getElem_cons_zero, List.setIfInBounds_toArray, List.set_cons_zero, List.set_cons_succ]
  refine wpAnyH_take (i := 7) (v := .agg #[.slice p7 oc.length q7, .slice p8 ol.length q8]) rfl (by kernel_rfl) (by kernel_rfl) (by kernel_rfl) (fun _ _ _ h => h) (Or.inl ⟨by rfl, ?_⟩) hHeld ?_
  · intro w' hSw; go_simp
  try simp only [Act.put, List.getElem_toArray, List.getElem_cons_succ, List.getElem_cons_zero, List.setIfInBounds_toArray, List.set_cons_zero, List.set_cons_succ]
  refine wpAnyH_take (i := 8) (v := .int .i64 err) rfl (by kernel_rfl) (by kernel_rfl) (by kernel_rfl) (fun _ _ _ h => h) (Or.inl ⟨by rfl, ?_⟩) hHeld ?_
  · intro w' hSw; go_simp
  try simp only [Act.put, List.getElem_toArray, List.getElem_cons_succ, List.getElem_cons_zero, List.setIfInBounds_toArray, List.set_cons_zero, List.set_cons_succ]
  have hHeld2 := (hHeld.trans (Only.setCell (A := fun z => A z ∨ z = w.heap.size + 1 + 1) w7 (p := ⟨w.heap.size + 1 + 1, 0, none⟩) (.inr rfl) (.slice p7 oc.length q7))).trans (Only.setCell (A := fun z => A z ∨ z = w.heap.size + 1 + 1) _ (p := ⟨w.heap.size + 1 + 1, 1, none⟩) (.inr rfl) (.slice p8 ol.length q8))
  refine wpAnyH_ready (rs := [9]) (by kernel_rfl) (by simp) ?_
  refine allSkip (w' := (w7.setCell ⟨w.heap.size + 1 + 1, 0, none⟩ (.slice p7 oc.length q7)).setCell ⟨w.heap.size + 1 + 1, 1, none⟩ (.slice p8 ol.length q8)) rfl (by kernel_rfl) ?_ hHeld2 ?_ AllReadyH.nil
  · go_simp
  try simp only [Act.put, List.getElem_toArray, List.getElem_cons_succ, List.getElem_cons_zero, List.setIfInBounds_toArray, List.set_cons_zero, List.set_cons_succ]
  clear hHeld
  have hHeld := hHeld2
  clear hHeld2
  refine wpAnyH_take (i := 10) (v := .int .i64 err) rfl (by kernel_rfl) (by kernel_rfl) (by kernel_rfl) (fun _ _ _ h => h) (Or.inl ⟨by rfl, ?_⟩) hHeld ?_
  · intro w' hSw; go_simp
  try simp only [Act.put, List.getElem_toArray, List.getElem_cons_succ, List.getElem_cons_zero, List.setIfInBounds_toArray, List.set_cons_zero, List.set_cons_succ]
  refine wpAnyH_done (by kernel_rfl) ?_ _
  clear hHeld
  go_wp2_with fail
  exact ret_cell_tmp rfl rfl Ht.out rfl rfl Hr.out
end Go.Proofs.Ytpncblagjkbemaa
end

/- made, with what it turns. (Printed by mek.py.) -/
section
set_option linter.unusedVariables false
set_option linter.unusedSimpArgs false
namespace Go.Proofs.Ytpncblagjkbemaa
open Go.RowKit
set_option linter.unusedVariables false
set_option linter.unusedSimpArgs false

set_option maxRecDepth 100000 in
set_option maxHeartbeats 4000000 in
theorem madeO_any (lo lc hc : Nat) (cols : List S) (cv : Value) (xs : List (List V)) (hs : List Value) (v : Value) (w : World) (hcols : Strs lc hc w cv cols) (hhc : hc ≤ lo) (hlo : lo ≤ w.heap.size) (h : OwnR lo w v hs xs) (hlen : xs.length ≤ 1000000000000) (R : Ending → World → Prop)
    (hbad : (32 < cols.length ∨ 100000 < (relCanon xs).length) → ∀ w', Only (fun z => v.ownBlock = some z) w w' → w.heap.size ≤ w'.heap.size → R (.returned (.tuple #[.agg #[.slice none 0 0, .slice none 0 0], .int .i64 140])) w')
    (hok : cols.length ≤ 32 → (relCanon xs).length ≤ 100000 → ∀ w' cv' lv hs', Only (fun z => v.ownBlock = some z) w w' → w.heap.size ≤ w'.heap.size → OwnT w.heap.size w' cv' cols → OwnR lo w' lv hs' (relCanon xs) → R (.returned (.tuple #[.agg #[cv', lv], .int .i64 0])) w') :
    Calls Try.prog 70 #[cv, v] w R := by
  have Hbad := Lib.hid hbad
  have Hok := Lib.hid hok
  have Hcols := Lib.hid hcols
  have H := Lib.hid h
  obtain ⟨ac, cc, rfl, -, -, -, -⟩ := hcols.form
  obtain ⟨av, cv2, hv⟩ := Own.slice h.own
  clear hbad hok hcols h
  have hB0 := alloc_below w (.cells #[.slice none 0 0, .slice none 0 0] 34)
  have hb0 := Blk.new w [.slice none 0 0, .slice none 0 0] 34 rfl
  subst hv
  go_enter Try.func70, Try.ntmps70
  go_upto_region 1 with fail
  generalize w.alloc (.cells #[.slice none 0 0, .slice none 0 0] 34) = w0 at *
  have HB0 := Lib.hid hB0
  have Hb0 := Lib.hid hb0
  have hz0 := hB0.size
  have hb0l := hb0.lt
  have H0 := Lib.hid (H.out.kept hB0)
  clear hB0 hb0
  go_wp2_with fail
  have hapt : ∀ z, (Value.slice av hs.length cv2).ownBlock = some z → lo ≤ z ∧ z ≠ w.heap.size := fun z hz => by
    have := Own.lt H.out.own z hz
    omega
  have Hapt := Lib.hid hapt
  clear hapt
  refine sortRows_any lo _ hs xs w0 H0.out hlen _ (fun w1 hs1 xs1 hO1 h1 hp1 hup1 => ?_)
  have Hcan : Hid (compactL cmpR xs1 = relCanon xs) := Lib.hid (compact_canon cmpR_cmp hup1 (fun x => hp1.mem_iff))
  have hl1 : xs1.length ≤ 1000000000000 := by rw [hp1.length_eq]; exact hlen
  have HO1 := Lib.hid hO1
  have H1 := Lib.hid h1
  have hlen1 : hs1.length = hs.length := by
    obtain ⟨p, c, e⟩ := Own.slice h1.own
    injection e with _ e _
    exact e.symm
  clear hO1 h1 hp1 hup1
  go_wp2_with fail
  refine compact_any lo _ hs1 xs1 w1 H1.out hl1 _ (fun w2 v2 hs2 hO2 h2 => ?_)
  rw [Hcan.out] at h2
  have HO2 := Lib.hid (HO1.out.trans hO2)
  have hB2 : Below lo w w2 := (HB0.out.mono hlo).trans (HO2.out.below (by omega) (fun z hz => (Hapt.out z hz).1))
  have hb2 : Blk w2 w.heap.size [.slice none 0 0, .slice none 0 0] 34 := HO2.out.blk Hb0.out (fun e => (Hapt.out _ e).2 rfl)
  have HB2 := Lib.hid hB2
  have HOn := Lib.hid (Only.into (A := fun z => (Value.slice av hs.length cv2).ownBlock = some z) HB0.out rfl HO2.out (fun _ _ h => h))
  have Hb2 := Lib.hid hb2
  have hz2 := HO2.out.size
  have H2 := Lib.hid h2
  have hlr := h2.len
  have hcan := canon_len_le xs
  obtain ⟨p2, c2, e2⟩ := Own.slice h2.own
  rw [hlr] at e2
  subst e2
  obtain ⟨d0, d1⟩ := hb2.cells.c2
  have f0 := hb2.free 0
  have f1 := hb2.free 1
  clear hO2 h2 hB2 hlr
  have Hrv2 := Lib.hid (((hb2.set 0 (.slice none 0 0)).set 1 (.slice none 0 0)).cells.runVar (P := Try.prog) (t := 34) (fun _ => by kernel_rfl) (fun _ => by kernel_rfl))
  have HBs := Lib.hid ((HOn.out.setNew (Nat.le_refl _) 0 (.slice none 0 0)).setNew (Nat.le_refl w.heap.size) 1 (.slice none 0 0))
  clear hb2
  simp only [Nat.zero_add] at d1
  obtain ⟨m, hm⟩ : ∃ m, m = (relCanon xs).length := ⟨_, rfl⟩
  obtain ⟨q, hq⟩ : ∃ q, q = cols.length := ⟨_, rfl⟩
  rw [← hm, ← hq]
  have Hm := Lib.hid hm
  have Hq := Lib.hid hq
  clear hm hq hcan
  by_cases h32 : 32 < q
  · have c32 : (32 : Int) < (q : Int) := by omega
    have hr := Hbad.out (.inl (by rw [← Hq.out]; exact h32)) _ HBs.out (by simp; omega)
    have Hr := Lib.hid hr
    clear hr
    go_wp2_with fail
    exact ret_cell_tmp rfl rfl Hrv2.out rfl rfl Hr.out
  · have c32 : ¬ (32 : Int) < (q : Int) := by omega
    by_cases h10 : 100000 < m
    · have c10 : (100000 : Int) < (m : Int) := by omega
      have hr := Hbad.out (.inr (by rw [← Hm.out]; exact h10)) _ HBs.out (by simp; omega)
      have Hr := Lib.hid hr
      clear hr
      go_wp2_with fail
      exact ret_cell_tmp rfl rfl Hrv2.out rfl rfl Hr.out
    · have c10 : ¬ (100000 : Int) < (m : Int) := by omega
      clear Hrv2 HBs
      go_wp2_with fail
      rw [Hq.out]
      refine CloneStr_any lc hc cols _ w2 (Sl.below Hcols.out Strs.loc HB2.out hhc) (by omega) (by rw [← Hq.out]; omega) _ (fun w3 v3 hB3 ho3 => ?_)
      have hb3 := Hb2.out.below hB3 (by omega)
      have hrv := ((hb3.set 0 v3).set 1 (.slice p2 m c2)).cells.runVar (P := Try.prog) (t := 34) (fun _ => by kernel_rfl) (fun _ => by kernel_rfl)
      have h3 := H2.out.kept hB3
      have hT := (Own.setOther (Own.setOther ho3 (p := ⟨w.heap.size, 0, none⟩) (Own.ne_blk ho3 hb3 (by decide)) v3) (p := ⟨w.heap.size, 1, none⟩) (Own.ne_blk ho3 hb3 (by decide)) (.slice p2 m c2))
      have hR3 := (h3.setBlk hb3 (by decide) (by decide) 0 v3).setBlk (hb3.set 0 v3) (by decide) (by decide) 1 (.slice p2 m c2)
      have hB3' := ((HOn.out.trans (Below.only hB3)).setNew (Nat.le_refl w.heap.size) 0 v3).setNew (Nat.le_refl w.heap.size) 1 (.slice p2 m c2)
      have hz3 := hB3.size
      have hr := Hok.out (by rw [← Hq.out]; omega) (by rw [← Hm.out]; omega) _ v3 _ hs2 hB3' (by simp; omega) (Own.lower hT (by omega)) hR3
      rw [← Hm.out] at hr
      obtain ⟨p3, c3, rfl⟩ := Own.slice ho3
      obtain ⟨d0, d1⟩ := hb3.cells.c2
      have f0 := hb3.free 0
      have f1 := hb3.free 1
      simp only [Nat.zero_add] at d1
      have Hr := Lib.hid hr
      have Hrv := Lib.hid hrv
      clear hb3 hrv h3 hT hR3 hB3' hr ho3 hB3
      go_wp2_with fail
      exact ret_cell_tmp rfl rfl Hrv.out rfl rfl Hr.out
theorem madeOK_any (lo lc hc : Nat) (cols : List S) (cv : Value) (xs : List (List V)) (hs : List Value) (v : Value) (w : World) (hcols : Strs lc hc w cv cols) (hhc : hc ≤ lo) (hlo : lo ≤ w.heap.size) (h : OwnR lo w v hs xs) (hlen : xs.length ≤ 1000000000000) (R : Ending → World → Prop)
    (hR : ∀ w' cv' lv hs', Only (fun z => v.ownBlock = some z) w w' → w.heap.size ≤ w'.heap.size → OwnT lo w' cv' (okL (madeErr cols xs) cols) → OwnR lo w' lv hs' (okL (madeErr cols xs) (relCanon xs)) → R (.returned (.tuple #[.agg #[cv', lv], .int .i64 (madeErr cols xs)])) w') :
    Calls Try.prog 70 #[cv, v] w R := by
  refine madeO_any lo lc hc cols cv xs hs v w hcols hhc hlo h hlen R (fun hb w' hB hz => ?_) (fun h1 h2 w' cv' lv hs' hB hz hT hO => ?_)
  · have e : madeErr cols xs = 140 := if_pos hb
    have := hR w' _ _ [] hB hz (by rw [e]; exact Own.nil _ _ _ _ _) (by rw [e]; exact OwnR.nil _ _)
    rw [e] at this
    exact this
  · have e : madeErr cols xs = 0 := if_neg (by omega)
    have := hR w' cv' lv hs' hB hz (by rw [e]; exact Own.lower hT hlo) (by rw [e]; exact hO)
    rw [e] at this
    exact this
end Go.Proofs.Ytpncblagjkbemaa
end

/- Join. (Printed by mej.py, mej2.py.) -/
section
set_option linter.unusedVariables false
set_option linter.unusedSimpArgs false
namespace Go.Proofs.Ytpncblagjkbemaa
open Go.RowKit Go.Shelf
set_option linter.unusedVariables false
set_option linter.unusedSimpArgs false
attribute [local go_sem] Oper.semAt_some

set_option maxRecDepth 1000000 in
set_option maxHeartbeats 16000000 in
theorem Join_any (lca hca lra hra lcb hcb lrb hrb : Nat) (ac bc : List S) (pa pb : Option Addr) (ca cb : Nat) (la lb : List (List V)) (lva lvb : Value) (w : World) (ha : Strs lca hca w (.slice pa ac.length ca) ac) (hha : hca ≤ w.heap.size) (hla : Rws lra hra w lva la) (hhla : hra ≤ w.heap.size) (hb : Strs lcb hcb w (.slice pb bc.length cb) bc) (hhb : hcb ≤ w.heap.size) (hlb : Rws lrb hrb w lvb lb) (hhlb : hrb ≤ w.heap.size) (hprod : la.length * lb.length < 100000) (R : Ending → World → Prop)
    (hR : ∀ w' cv2 lv2 hs, Below w.heap.size w w' → OwnT w.heap.size w' cv2 (okL (joinErr ac la bc lb) (joinCols ac bc)) → OwnR w.heap.size w' lv2 hs (okL (joinErr ac la bc lb) (relCanon (joinL ac la bc lb))) → R (.returned (.tuple #[.agg #[cv2, lv2], .int .i64 (joinErr ac la bc lb)])) w') :
    Calls Try.prog 41 #[.agg #[.slice pa ac.length ca, lva], .agg #[.slice pb bc.length cb, lvb]] w R := by
  have HR := Lib.hid hR
  have Ha := Lib.hid ha
  have Hb := Lib.hid hb
  have Hla := Lib.hid hla
  have Hlb := Lib.hid hlb
  obtain ⟨av, av2, rfl, -, -, -, -⟩ := hla.form
  obtain ⟨bv, bv2, rfl, -, -, -, -⟩ := hlb.form
  have hal63 := ha.len
  have hbl63 := hb.len
  clear hR ha hb hla hlb
  obtain ⟨wa, ewa⟩ : ∃ x, x = w.alloc (.cells #[.slice pa ac.length ca, .slice av la.length av2] 34) := ⟨_, rfl⟩
  obtain ⟨wb, ewb⟩ : ∃ x, x = wa.alloc (.cells #[.slice pb bc.length cb, .slice bv lb.length bv2] 34) := ⟨_, rfl⟩
  obtain ⟨wc, ewc⟩ : ∃ x, x = wb.alloc (.cells #[.slice none 0 0, .slice none 0 0] 34) := ⟨_, rfl⟩
  obtain ⟨w2, ew2⟩ : ∃ x, x = wc.alloc (.cells #[.int .i64 0] 25) := ⟨_, rfl⟩
  have sa : wa.heap.size = w.heap.size + 1 := by rw [ewa]; simp
  have sb : wb.heap.size = w.heap.size + 1 + 1 := by rw [ewb]; simp [sa]
  have sc : wc.heap.size = w.heap.size + 1 + 1 + 1 := by rw [ewc]; simp [sb]
  have hBa : Below w.heap.size w wa := by rw [ewa]; exact alloc_below _ _
  have hBb : Below wa.heap.size wa wb := by rw [ewb]; exact alloc_below _ _
  have hBc : Below wb.heap.size wb wc := by rw [ewc]; exact alloc_below _ _
  have hBd : Below wc.heap.size wc w2 := by rw [ew2]; exact alloc_below _ _
  have hb1 : Blk wa w.heap.size [.slice pa ac.length ca, .slice av la.length av2] 34 := by rw [ewa]; exact Blk.new w [.slice pa ac.length ca, .slice av la.length av2] _ rfl
  have hb2 : Blk wb (w.heap.size + 1) [.slice pb bc.length cb, .slice bv lb.length bv2] 34 := by rw [ewb]; exact Blk.new wa [.slice pb bc.length cb, .slice bv lb.length bv2] _ sa.symm
  have hb3 : Blk wc (w.heap.size + 1 + 1) [.slice none 0 0, .slice none 0 0] 34 := by rw [ewc]; exact Blk.new wb [.slice none 0 0, .slice none 0 0] _ sb.symm
  have hb4 : Blk w2 (w.heap.size + 1 + 1 + 1) [.int .i64 0] 25 := by rw [ew2]; exact Blk.new wc [.int .i64 0] _ sc.symm
  have hb1 := ((hb1.below hBb hb1.lt).below hBc (by omega)).below hBd (by omega)
  have hb2 := (hb2.below hBc hb2.lt).below hBd (by omega)
  have hb3 := hb3.below hBd hb3.lt
  have hB := hBa.trans ((hBb.mono hBa.size).trans ((hBc.mono (by omega)).trans (hBd.mono (by omega))))
  refine (callsIn_wide (n := 3)).1 (callsIn_of_wp_marks Try.func41 rfl trivial ?_ rfl)
  refine wpIn_wide.2 ?_
  simp only [Try.ntmps41, List.size_toArray, List.length_cons, Nat.reduceAdd, Nat.reduceSub, Array.replicate_succ, Array.replicate_zero, List.push_toArray, List.append_toArray, List.nil_append, List.cons_append, List.length_nil]
  go_upto_region 1 with fail
  rw [← ewa, ← ewb, ← ewc, ← ew2]
  clear ewa ewb ewc ew2 hBa hBb hBc hBd sa sb sc
  have HB := Lib.hid hB
  have Hb1 := Lib.hid hb1
  have Hb2 := Lib.hid hb2
  have Hb3 := Lib.hid hb3
  have Hb4 := Lib.hid hb4
  have hz2 := hB.size
  have hl4 := hb4.lt
  clear hb1 hb2 hb3 hb4 hB
  have Ha2 := Lib.hid (Sl.below Ha.out Strs.loc HB.out hha)
  have Hb2c := Lib.hid (Sl.below Hb.out Strs.loc HB.out hhb)
  have Hla2 := Lib.hid (Sl.below Hla.out rowE_loc HB.out hhla)
  have Hlb2 := Lib.hid (Sl.below Hlb.out rowE_loc HB.out hhlb)
  clear Ha Hb Hla Hlb
  have HA2 : Hid (Below w2.heap.size w2 w2) := Lib.hid (Below.refl _ _)
  obtain ⟨c0, c1⟩ := Hb1.out.cells.c2
  simp only [Nat.zero_add] at c1
  go_wp2_with fail
  refine May_any lra hra lca hca ac _ _ la _ w2 Ha2.out (by omega) Hla2.out (by omega) _ (fun w5 hB5 => ?_)
  have hz5 := hB5.size
  have HA5 := Lib.hid hB5
  clear hB5 c0 c1
  cases hm : mayRel ac la
  · have hbE := Hb3.out.below HA5.out (by omega)
    have hbF := Hb4.out.below HA5.out hl4
    obtain ⟨e0, e1⟩ := hbE.cells.c2
    have e2 := hbF.cells.c1
    have f0 := hbE.free 0
    have f1 := hbE.free 1
    have f2 := hbF.free 0
    simp only [Nat.zero_add] at e1
    have he : joinErr ac la bc lb = 2 := by unfold joinErr; rw [hm]; rfl
    have HbE := Lib.hid hbE
    have HbF := Lib.hid hbF
    clear hbE hbF hm
    rw [he] at HR
    go_wp2_with fail
    exact joinTail (w := w) (b4 := w.heap.size + 1 + 1) (b5 := w.heap.size + 1 + 1 + 1) (pc := none) (pr := none) (nc := 0) (nr := 0) (qc := 0) (qr := 0) (Ds := []) (cols := []) (xs := []) (hs := []) rfl rfl rfl HbE.out HbF.out (by omega) (by omega) (by omega) (HB.out.trans (Below.mono HA5.out hz2)) (Own.nil _ _ _ _ _) (OwnR.nil _ _) List.nodup_nil (fun D hD => by cases hD) (fun w' cv2 lv2 hs h1 h2 h3 => HR.out w' cv2 lv2 hs h1 h2 h3)
  have Hm := Lib.hid hm
  clear hm
  obtain ⟨c0, c1⟩ := (Hb2.out.below HA5.out (by omega)).cells.c2
  simp only [Nat.zero_add] at c1
  go_wp2_with fail
  refine May_any lrb hrb lcb hcb bc _ _ lb _ w5 (Sl.below Hb2c.out Strs.loc HA5.out (by omega)) (by omega) (Sl.below Hlb2.out rowE_loc HA5.out (by omega)) (by omega) _ (fun w6 hB6 => ?_)
  have hz6 := hB6.size
  have HA6 := Lib.hid (HA5.out.trans (hB6.mono (by omega)))
  clear hB6 c0 c1
  cases hm : mayRel bc lb
  · have hbE := Hb3.out.below HA6.out (by omega)
    have hbF := Hb4.out.below HA6.out hl4
    obtain ⟨e0, e1⟩ := hbE.cells.c2
    have e2 := hbF.cells.c1
    have f0 := hbE.free 0
    have f1 := hbE.free 1
    have f2 := hbF.free 0
    simp only [Nat.zero_add] at e1
    have he : joinErr ac la bc lb = 2 := by unfold joinErr; rw [hm, Hm.out]; rfl
    have HbE := Lib.hid hbE
    have HbF := Lib.hid hbF
    clear hbE hbF hm
    rw [he] at HR
    go_wp2_with fail
    exact joinTail (w := w) (b4 := w.heap.size + 1 + 1) (b5 := w.heap.size + 1 + 1 + 1) (pc := none) (pr := none) (nc := 0) (nr := 0) (qc := 0) (qr := 0) (Ds := []) (cols := []) (xs := []) (hs := []) rfl rfl rfl HbE.out HbF.out (by omega) (by omega) (by omega) (HB.out.trans (Below.mono HA6.out hz2)) (Own.nil _ _ _ _ _) (OwnR.nil _ _) List.nodup_nil (fun D hD => by cases hD) (fun w' cv2 lv2 hs h1 h2 h3 => HR.out w' cv2 lv2 hs h1 h2 h3)
  have Hmb := Lib.hid hm
  have he : joinErr ac la bc lb = madeErr (joinCols ac bc) (joinL ac la bc lb) := by unfold joinErr; rw [Hm.out, hm]; rfl
  rw [he] at HR
  clear he hm
  have hmla := (may_many Hm.out).1
  have hmlb := (may_many Hmb.out).1
  have hmca := (may_many Hm.out).2
  have hmcb := (may_many Hmb.out).2
  have hccl := common_len ac bc
  have hrcl := rest_len ac bc
  obtain ⟨c0, c1⟩ := (Hb1.out.below HA6.out (by omega)).cells.c2
  obtain ⟨d0, d1⟩ := (Hb2.out.below HA6.out (by omega)).cells.c2
  simp only [Nat.zero_add] at c1 d1
  go_wp2_with fail
  refine both_any lca hca lcb hcb ac bc _ _ _ _ _ _ _ _ _ _ w6 (Sl.below Ha2.out Strs.loc HA6.out (by omega)) (by omega) (Sl.below Hb2c.out Strs.loc HA6.out (by omega)) (by omega) (by omega) _ (fun w7 v4 v5 hB7 h4 h5 => ?_)
  have HB67 := Lib.hid hB7
  have hz7 := hB7.size
  have HA7 := Lib.hid (HA6.out.trans (hB7.mono (by omega)))
  have H4 := Lib.hid (OwnT.sl h4)
  have H5 := Lib.hid (OwnT.sl h5)
  obtain ⟨p4, q4, rfl⟩ := Own.slice h4
  obtain ⟨p5, q5, rfl⟩ := Own.slice h5
  clear hB7 h4 h5 c0 c1 d0 d1
  obtain ⟨c0, c1⟩ := (Hb1.out.below HA7.out (by omega)).cells.c2
  simp only [Nat.zero_add] at c1
  go_wp2_with fail
  have hBa := alloc_below w7 (.cells #[.slice pa ac.length ca, .slice p5 (restC ac bc).length q5] 31)
  have hba := Blk.new w7 [.slice pa ac.length ca, .slice p5 (restC ac bc).length q5] 31 rfl
  generalize hw7' : w7.alloc (.cells #[.slice pa ac.length ca, .slice p5 (restC ac bc).length q5] 31) = w7' at *
  have hlba := hba.lt
  refine ConcatStr_any lca hca w6.heap.size w7.heap.size w7.heap.size ac (restC ac bc) _ _ w7' (Sl.below (Sl.below Ha2.out Strs.loc HA7.out (by omega)) Strs.loc hBa (by omega)) (by omega) (Sl.below H5.out Strs.loc hBa (Nat.le_refl _)) (by omega) hba.cells hlba (by omega) (by omega) _ (fun w8 v8 hB8 h8 => ?_)
  have hz8 := hB8.size
  have HB78 := Lib.hid (hBa.trans (hB8.mono (by omega)))
  have HA8 := Lib.hid (HA7.out.trans (HB78.out.mono (by omega)))
  have H8 := Lib.hid (OwnT.sl (Own.lower h8 (show w7.heap.size ≤ w7'.heap.size by omega)))
  obtain ⟨p8, q8, rfl⟩ := Own.slice h8
  have hjc : (ac ++ restC ac bc).length = ac.length + (restC ac bc).length := List.length_append
  clear hBa hba hw7' hB8 h8 c0 c1
  by_cases h32 : 32 < (ac ++ restC ac bc).length
  · have hb32 : (32 : Int) < ((ac ++ restC ac bc).length : Int) := by omega
    have hbE := Hb3.out.below HA8.out (by omega)
    have hbF := Hb4.out.below HA8.out hl4
    obtain ⟨e0, e1⟩ := hbE.cells.c2
    have e2 := hbF.cells.c1
    have f0 := hbE.free 0
    have f1 := hbE.free 1
    have f2 := hbF.free 0
    simp only [Nat.zero_add] at e1
    have he : madeErr (joinCols ac bc) (joinL ac la bc lb) = 140 := if_pos (Or.inl h32)
    have HbE := Lib.hid hbE
    have HbF := Lib.hid hbF
    clear hbE hbF
    rw [he] at HR
    go_wp2_with fail
    exact joinTail (w := w) (b4 := w.heap.size + 1 + 1) (b5 := w.heap.size + 1 + 1 + 1) (pc := none) (pr := none) (nc := 0) (nr := 0) (qc := 0) (qr := 0) (Ds := []) (cols := []) (xs := []) (hs := []) rfl rfl rfl HbE.out HbF.out (by omega) (by omega) (by omega) (HB.out.trans (Below.mono HA8.out hz2)) (Own.nil _ _ _ _ _) (OwnR.nil _ _) List.nodup_nil (fun D hD => by cases hD) (fun w' cv2 lv2 hs h1 h2 h3 => HR.out w' cv2 lv2 hs h1 h2 h3)
  have hb32 : ¬ (32 : Int) < ((ac ++ restC ac bc).length : Int) := by omega
  obtain ⟨c0, c1⟩ := (Hb1.out.below HA8.out (by omega)).cells.c2
  simp only [Nat.zero_add] at c1
  go_wp2_with fail
  have Hpc := Lib.hid (Sl.below H4.out Strs.loc HB78.out (Nat.le_refl _))
  refine placesK_any w6.heap.size w7.heap.size lca hca (commonC ac bc) ac _ _ w8 Hpc.out (by omega) (Sl.below Ha2.out Strs.loc HA8.out (by omega)) (by omega) (by omega) _ (fun w9 v9 ks hB9 ho9 hks => ?_)
  obtain rfl := hks (within_common ac bc)
  rw [within_common ac bc]
  obtain ⟨p9, q9, rfl⟩ := Own.slice ho9
  have HB89 := Lib.hid hB9
  have hz9 := hB9.size
  have HA9 := Lib.hid (HA8.out.trans (hB9.mono (by omega)))
  have Ho9 := Lib.hid (OwnI.sl ho9)
  have Hpl : Hid ((placesL (commonC ac bc) ac).length = (commonC ac bc).length) := Lib.hid (by unfold placesL; simp)
  clear hB9 ho9 hks c0 c1
  go_upto_region 8 with fail
  have hBa := alloc_below w9 (.cells #[.slice p9 (placesL (commonC ac bc) ac).length q9] 84)
  have hba := Blk.new w9 [.slice p9 (placesL (commonC ac bc) ac).length q9] 84 rfl
  generalize w9.alloc (.cells #[.slice p9 (placesL (commonC ac bc) ac).length q9] 84) = w10 at *
  have Hbt := Lib.hid hba
  have hz10 := hBa.size
  have hlbt := hba.lt
  have HB9_10 := Lib.hid hBa
  have HA10 := Lib.hid (HA9.out.trans (hBa.mono (by omega)))
  have HB7_10 := Lib.hid (HB78.out.trans ((HB89.out.mono (by omega)).trans (hBa.mono (by omega))))
  clear hBa hba
  obtain ⟨d0, d1⟩ := (Hb2.out.below HA10.out (by omega)).cells.c2
  simp only [Nat.zero_add] at d1
  go_wp2_with fail
  refine sorted_any lrb hrb lcb hcb w6.heap.size w7.heap.size w6.heap.size w7.heap.size bc _ _ lb _ (commonC ac bc) (restC ac bc) _ _ w10 (Sl.below Hb2c.out Strs.loc HA10.out (by omega)) (by omega) (Sl.below Hlb2.out rowE_loc HA10.out (by omega)) (by omega) (Sl.below H4.out Strs.loc HB7_10.out (Nat.le_refl _)) (by omega) (Sl.below H5.out Strs.loc HB7_10.out (Nat.le_refl _)) (by omega) Hmb.out (within_all ac bc) (by omega) (by omega) _ (fun w11 v11 hs11 ys hB11 hR11 hperm hsort => ?_)
  obtain ⟨p11, q11, e11⟩ := Own.slice hR11.own
  rw [hR11.len] at e11
  subst e11
  have HB10_11 := Lib.hid hB11
  have hz11 := hB11.size
  have HA11 := Lib.hid (HA10.out.trans (hB11.mono (by omega)))
  have HR11 := Lib.hid (OwnR.rws hR11)
  have Hperm := Lib.hid hperm
  have Hsort : Hid (ys.Pairwise fun a b => 0 ≤ cmpR b a) := Lib.hid (hsort.imp (fun {a b} h => by omega))
  have hyl : ys.length = lb.length := by rw [hperm.length_eq, List.length_map]
  have Hyl := Lib.hid hyl
  clear hB11 hR11 hperm hsort hyl d0 d1
  go_upto_region 10 with fail
  have hBa := alloc_below w11 (.cells #[.slice none 0 0] 32)
  have hba := Blk.new w11 [.slice none 0 0] 32 rfl
  have hsz : (w11.alloc (.cells #[.slice none 0 0] 32)).heap.size = w11.heap.size + 1 := by simp
  generalize w11.alloc (.cells #[.slice none 0 0] 32) = wB at *
  have HBo := Lib.hid hba
  have hlB : w11.heap.size < wB.heap.size := hba.lt
  have HB11_B := Lib.hid hBa
  have HAB := Lib.hid (HA11.out.trans (hBa.mono (by omega)))
  clear hBa hba hsz
  obtain ⟨c0, c1⟩ := (Hb1.out.below HAB.out (by omega)).cells.c2
  simp only [Nat.zero_add] at c1
  go_upto_block 0 with fail
  have HB10_B := Lib.hid (HB10_11.out.trans (HB11_B.out.mono (by omega)))
  have HB9_B := Lib.hid (HB9_10.out.trans (HB10_B.out.mono (by omega)))
  have hrl : ∀ y ∈ ys, y.length = (commonC ac bc).length + (restC ac bc).length := fun y hy => by
    obtain ⟨z, hz, rfl⟩ := List.mem_map.1 (Hperm.out.mem_iff.1 hy)
    rw [pick_len', List.length_append]
  have hlx : ∀ x ∈ la, x.length = ac.length := fun x hx => may_len Hm.out x hx
  have hat : (placesL (commonC ac bc) ac).length = (commonC ac bc).length := Hpl.out
  refine wp_onRet ?_
  refine joinLoop lra hra w10.heap.size w11.heap.size w8.heap.size w9.heap.size w9.heap.size w11.heap.size la ys _ _ _ _ (placesL (commonC ac bc) ac) _ wB (Sl.below Hla2.out rowE_loc HAB.out (by omega)) (by omega) (Sl.below HR11.out rowE_loc HB11_B.out (Nat.le_refl _)) (Nat.le_refl _) (Sl.below Ho9.out Ints.loc HB9_B.out (Nat.le_refl _)) (by omega) (Hbt.out.below HB10_B.out hlbt) (by omega) HBo.out Hsort.out (fun y hy => by rw [hrl y hy, hat]; omega) (by rw [Hyl.out]; omega) (fun x hx => by rw [hlx x hx]; exact places_ok (within_common ac bc)) (by rw [hat]; omega) (fun x hx => by rw [hlx x hx]; omega) (fun y hy => by rw [hrl y hy]; omega) (by omega) (by rw [Hyl.out]; exact hprod) _ _ _ _ _ _ _ _ _ _ _ _ _ _ _ _ _ _ _ _ _ _ _ _ _ _ _ _ _ _ _ _ _ _ _ _ _ _ _ _ _ _ _ _ _ _ _ _ _ _ _ _ _ _ _ _ _ _ _ _ _ _ _ _ _ _ _ _ _ _ _ _ _ _ _ _ _ _ _ _ ?_
  intro w12 v12 hs12 Ds hO12 hb12 ho12 hnd hds z0 z1 z2 z3 z4 z5 z6 z7 z8 z9 z10 z11 z12 z13 z14 z15 z16 z17 z18 z19 z20 z21 z22 z23 z24 z25 z26 z27
  have hB12 : Below w11.heap.size wB w12 := hO12.below (by omega) (fun k e => by have : k = w11.heap.size := e; omega)
  have hz12 := hO12.size
  have HA12 := Lib.hid (HAB.out.trans (hB12.mono (by omega)))
  have HB12 := Lib.hid hB12
  have Ho12 := Lib.hid ho12
  have Hnd := Lib.hid hnd
  have Hds := Lib.hid hds
  have Hxs := Lib.hid (join_same (la := la) Hperm.out)
  have hxl := joinRaw_len la ys (placesL (commonC ac bc) ac)
  rw [Hyl.out] at hxl
  obtain ⟨p12, q12, e12⟩ := Own.slice ho12.own
  subst e12
  have cb := hb12.cells.c1
  clear hO12 hb12 ho12 hnd hds hB12 c0 c1 hrl hlx
  go_wp2_with fail
  have H8j : Hid (Strs w7.heap.size w8.heap.size w8 (.slice p8 (ac.length + (restC ac bc).length) q8) (joinCols ac bc)) := Lib.hid (by have := H8.out; rwa [hjc] at this)
  refine madeOK_any wB.heap.size w7.heap.size w8.heap.size (joinCols ac bc) _ _ _ _ w12 (Sl.below H8j.out Strs.loc ((HB89.out.trans (HB9_B.out.mono (by omega))).trans (HB12.out.mono (by omega))) (by omega)) (by omega) (by omega) Ho12.out (by omega) _ (fun w13 cv7 lv7 hs13 hO13 hz13 hT7 hO7 => ?_)
  have hB13 : Below wB.heap.size w12 w13 := hO13.below (by omega) (fun k e => (Own.lt Ho12.out.own k e).1)
  rw [Hxs.out] at hO7
  rw [madeErr_same Hxs.out] at hT7 hO7 ⊢
  generalize hE : madeErr (joinCols ac bc) (joinL ac la bc lb) = err at *
  generalize okL err (joinCols ac bc) = oc at *
  generalize okL err (relCanon (joinL ac la bc lb)) = ol at *
  obtain ⟨p7', q7', rfl⟩ := Own.slice hT7
  obtain ⟨p8', q8', rfl⟩ := Own.slice hO7.own
  have hBw13 : Below w.heap.size w w13 := HB.out.trans (Below.mono (HA12.out.trans (hB13.mono (by omega))) hz2)
  have hbE := (Hb3.out.below HA12.out (by omega)).below hB13 (by omega)
  have hbF := (Hb4.out.below HA12.out hl4).below hB13 (by omega)
  obtain ⟨e0, e1⟩ := hbE.cells.c2
  have e2 := hbF.cells.c1
  have f0 := hbE.free 0
  have f1 := hbE.free 1
  have f2 := hbF.free 0
  simp only [Nat.zero_add] at e1
  have HbE := Lib.hid hbE
  have HbF := Lib.hid hbF
  have HBw13 := Lib.hid hBw13
  have HT7 := Lib.hid (Own.lower hT7 (show w.heap.size ≤ wB.heap.size by omega))
  have HO7 := Lib.hid (hO7.lower (show w.heap.size ≤ wB.heap.size by omega))
  have Hds13 : Hid (∀ D ∈ Ds, w.heap.size ≤ D ∧ w13.heap[D]? = some (.deferred (some []))) := Lib.hid (fun D hD => by
    obtain ⟨g1, g2⟩ := Hds.out D hD
    exact ⟨by omega, (hO13.block D (heap_lt g2) (fun h => Own.ne_def Ho12.out.own g2 rfl h)).trans g2⟩)
  clear hbE hbF hBw13 hT7 hO7 hB13 hO13 cb
  go_wp2_with fail
  exact joinTail (w := w) (b4 := w.heap.size + 1 + 1) (b5 := w.heap.size + 1 + 1 + 1) (Ds := Ds) rfl rfl rfl HbE.out HbF.out (by omega) (by omega) (by omega) HBw13.out HT7.out HO7.out Hnd.out Hds13.out (fun w' cv2 lv2 hs h1 h2 h3 => HR.out w' cv2 lv2 hs h1 h2 h3)

end Go.Proofs.Ytpncblagjkbemaa
end

/- What is too great for the law; the document's relation of the program's. -/
section
set_option linter.unusedVariables false
set_option linter.unusedSimpArgs false
namespace Go.Proofs.Ytpncblagjkbemaa
open Go.RowKit
set_option linter.unusedVariables false
set_option linter.unusedSimpArgs false

def greatB (cols : List S) (l : List (List V)) : Bool := decide (60 < cols.length) || decide (150 < l.length) || l.any fun x => decide (60 < x.length)
set_option maxRecDepth 100000 in
set_option maxHeartbeats 4000000 in
theorem great_any (lo hi : Nat) (cols : List S) (ac : Option Addr) (cc : Nat) (l : List (List V)) (lv : Value) (w : World) (hv : Rws lo hi w lv l) (R : Ending → World → Prop) (hR : R (.returned (.bool (greatB cols l))) w) :
    Calls Try.prog 22 #[.slice ac cols.length cc, lv] w R := by
  have HR := Lib.hid hR
  obtain ⟨av, cv, rfl, -, hcm, -, hc⟩ := hv.form
  have Hc := Lib.hid hc
  clear hR hv hc
  obtain ⟨q, hq⟩ : ∃ q, q = cols.length := ⟨_, rfl⟩
  rw [← hq]
  have Hq := Lib.hid hq
  clear hq
  go_enter Try.func22, Try.ntmps22
  by_cases h1 : 60 < q
  · have c1 : (60 : Int) < (q : Int) := by omega
    have hr := HR.out
    have e : greatB cols l = true := by unfold greatB; rw [decide_eq_true (by rw [← Hq.out]; exact h1)]; rfl
    rw [e] at hr
    clear e
    go_wp2_with fail
    first | exact hr | exact fin hr rfl
  · have c1 : ¬ (60 : Int) < (q : Int) := by omega
    by_cases h2 : 150 < l.length
    · have c2 : (150 : Int) < (l.length : Int) := by omega
      have hr := HR.out
      have e : greatB cols l = true := by unfold greatB; rw [decide_eq_true h2]; simp
      rw [e] at hr
      clear e
      go_wp2_with fail
      first | exact hr | exact fin hr rfl
    · have c2 : ¬ (150 : Int) < (l.length : Int) := by omega
      have Hcl : Hid (decide (60 < cols.length) = false) := Lib.hid (decide_eq_false (by rw [← Hq.out]; exact h1))
      clear h1
      go_wp2_with fail
      go_loop [16] (fun t16 => ∃ k : Nat, k ≤ l.length ∧ t16 = .int .i64 k ∧ ∀ i, i < k → (l.getD i []).length ≤ 60) (fun t16 => l.length - (intOf t16).toNat)
      case atStart => exact ⟨0, Nat.zero_le _, rfl, fun i h => absurd h (Nat.not_lt_zero _)⟩
      case round =>
        obtain ⟨k, hk, rfl, hno⟩ := hrel
        have Hno := Lib.hid hno
        clear hno
        have kk0 : (0 : Int) ≤ (k : Int) := by omega
        by_cases hlt : k < l.length
        · obtain ⟨b, off, rfl, hb1, hb2, hcc⟩ := Hc.out k hlt
          obtain ⟨cs, _, hcs, sv, rfl, hsv⟩ := hcc k hlt
          have g0 := hcs.c1
          rw [Nat.mul_one] at g0
          have kkl : (k : Int) < (l.length : Int) := by omega
          have Hx : Hid (l.getD k [] = l[k]) := Lib.hid (getDS l _ k hlt)
          have Hbadk : Hid (60 < l[k].length → greatB cols l = true) := Lib.hid (fun h => by
            have : (l.any fun x => decide (60 < x.length)) = true := by
              rw [List.any_eq_true]
              exact ⟨l[k], List.getElem_mem hlt, by simpa using h⟩
            unfold greatB
            rw [this]; simp)
          obtain ⟨ay, cy, rfl, -, -, -, -⟩ := hsv.form
          clear hcc hcs hsv
          generalize l[k] = x at *
          by_cases h3 : 60 < x.length
          · have c3 : (60 : Int) < (x.length : Int) := by omega
            have hr := HR.out
            rw [Hbadk.out h3] at hr
            clear h3
            go_wp2_with fail
            first | exact hr | exact fin hr rfl
          · have c3 : ¬ (60 : Int) < (x.length : Int) := by omega
            go_wp2_with fail
            go_round
            case rel => exact ⟨k + 1, by omega, by go_num, fun i hi => by
              by_cases e : i = k
              · subst e; rw [Hx.out]; omega
              · exact Hno.out i (by omega)⟩
            case measure => simp [intOf]; omega
        · obtain rfl : k = l.length := by omega
          have llt : ¬ ((l.length : Nat) : Int) < (l.length : Int) := by omega
          have hr := HR.out
          have e : greatB cols l = false := by
            unfold greatB
            rw [Hcl.out, decide_eq_false h2]
            have : (l.any fun x => decide (60 < x.length)) = false := by
              rw [List.any_eq_false]
              intro x hx
              obtain ⟨i, hi, rfl⟩ := List.getElem_of_mem hx
              have := Hno.out i hi
              rw [getDS l _ i hi] at this
              simp; omega
            rw [this]; rfl
          rw [e] at hr
          clear e
          go_wp2_with fail
          first | exact hr | exact fin hr rfl
set_option maxRecDepth 100000 in
set_option maxHeartbeats 4000000 in
theorem ref_any (ac av : Option Addr) (nc cc nv cv : Nat) (w : World) (R : Ending → World → Prop)
    (hR : ∀ w', Below w.heap.size w w' → R (.returned (.agg #[.slice ac nc cc, .slice av nv cv])) w') :
    Calls Try.prog 32 #[.agg #[.slice ac nc cc, .slice av nv cv]] w R := by
  have HR := Lib.hid hR
  clear hR
  have hB0 := alloc_below w (.cells #[.slice ac nc cc, .slice av nv cv] 34)
  have hb0 := Blk.new w [.slice ac nc cc, .slice av nv cv] 34 rfl
  go_enter Try.func32, Try.ntmps32
  go_upto_region 1 with fail
  have hB1 := hB0.alloc hB0.size (.cells #[.slice none 0 0, .slice none 0 0] 53)
  have hb1 : Blk _ (w.heap.size + 1) [.slice none 0 0, .slice none 0 0] 53 := Blk.new (w.alloc (.cells #[.slice ac nc cc, .slice av nv cv] 34)) [.slice none 0 0, .slice none 0 0] 53 (by show _ = (w.heap.push _).size; rw [Array.size_push])
  have hc0 := hb0.alloc (.cells #[.slice none 0 0, .slice none 0 0] 53)
  generalize (w.alloc (.cells #[.slice ac nc cc, .slice av nv cv] 34)).alloc (.cells #[.slice none 0 0, .slice none 0 0] 53) = w1 at *
  obtain ⟨d0, d1⟩ := hc0.cells.c2
  simp only [Nat.zero_add] at d1
  obtain ⟨e0, e1⟩ := hb1.cells.c2
  simp only [Nat.zero_add] at e1
  have f0 := hb1.free 0
  have f1 := hb1.free 1
  have Hrv := Lib.hid (((hb1.set 0 (.slice ac nc cc)).set 1 (.slice av nv cv)).cells.runVar (P := Try.prog) (t := 53) (fun _ => by kernel_rfl) (fun _ => by kernel_rfl))
  have Hr := Lib.hid (HR.out _ ((hB1.setCell (p := ⟨w.heap.size + 1, 0, none⟩) (Nat.le_succ _) (.slice ac nc cc)).setCell (p := ⟨w.heap.size + 1, 1, none⟩) (Nat.le_succ _) (.slice av nv cv)))
  clear hb0 hB0 hB1 hb1 hc0
  go_wp2_with fail
  exact ret_cell rfl rfl Hrv.out rfl Hr.out
end Go.Proofs.Ytpncblagjkbemaa
end

/- A relation's own copy. -/
section
set_option linter.unusedVariables false
set_option linter.unusedSimpArgs false
namespace Go.Proofs.Ytpncblagjkbemaa
open Go.RowKit
set_option linter.unusedVariables false
set_option linter.unusedSimpArgs false

theorem Own.apartT {α β : Type} {enc : α → List Value} {enc' : β → List Value} {e e' : TypeId} {size size' lo lo' : Nat} {w : World} {v v' : Value} {xs : List α} {ys : List β} (h : Own enc e size lo w v xs) (h' : Own enc' e' size' lo' w v' ys) (ht : e ≠ e') {k : Nat} (hk : v.ownBlock = some k) : v'.ownBlock ≠ some k := by
  rcases h.2 with ⟨rfl, -⟩ | ⟨g, cap, cur, rfl, -, hg, -⟩
  · cases hk
  · have e1 : g = k := by simpa [Value.ownBlock] using hk
    subst e1
    exact Own.ne_blk h' (cs := cur.toList) (by unfold Blk; simpa using hg) ht
set_option maxRecDepth 100000 in
set_option maxHeartbeats 4000000 in
theorem lawOwn_any (lo hi lc hc : Nat) (cols : List S) (ac : Option Addr) (cc : Nat) (l : List (List V)) (lv : Value) (w : World) (hcols : Strs lc hc w (.slice ac cols.length cc) cols) (hhc : hc ≤ w.heap.size) (hv : Rws lo hi w lv l) (hhi : hi ≤ w.heap.size) (hlen : l.length ≤ 1000000000000) (hcl : cols.length ≤ 1000000000000) (hrl : ∀ x ∈ l, x.length ≤ 1000000000000) (R : Ending → World → Prop)
    (hR : ∀ w' cv2 lv2, Below w.heap.size w w' → Strs w.heap.size w'.heap.size w' cv2 cols → Rws w.heap.size w'.heap.size w' lv2 l → R (.returned (.agg #[cv2, lv2])) w') :
    Calls Try.prog 23 #[.agg #[.slice ac cols.length cc, lv]] w R := by
  have HR := Lib.hid hR
  have Hv := Lib.hid hv
  have Hc := Lib.hid hcols
  have Hrl := Lib.hid hrl
  obtain ⟨av, cv, rfl, -, -, -, -⟩ := hv.form
  clear hR hv hcols hrl
  obtain ⟨q, hq⟩ : ∃ q, q = cols.length := ⟨_, rfl⟩
  rw [← hq]
  have Hq := Lib.hid hq
  clear hq
  go_enter Try.func23, Try.ntmps23
  go_upto_region 2 with fail
  obtain ⟨w0, hw0⟩ : ∃ w0, w0 = ((w.alloc (.cells #[.slice ac q cc, .slice av l.length cv] 34)).alloc (.cells #[.slice none 0 0, .slice none 0 0] 34)).alloc (.cells #[.slice none 0 0, .slice none 0 0] 34) := ⟨_, rfl⟩
  have s1 : (w.alloc (.cells #[.slice ac q cc, .slice av l.length cv] 34)).heap.size = w.heap.size + 1 := Array.size_push _
  have s2 : ((w.alloc (.cells #[.slice ac q cc, .slice av l.length cv] 34)).alloc (.cells #[.slice none 0 0, .slice none 0 0] 34)).heap.size = w.heap.size + 1 + 1 := (Array.size_push _).trans (by rw [s1])
  have hB0 : Below w.heap.size w w0 := by
    rw [hw0]
    exact ((alloc_below w _).alloc (by rw [s1]; omega) _).alloc (by rw [s2]; omega) _
  have hz0 : w.heap.size + 1 + 1 < w0.heap.size := by
    rw [hw0]
    show _ < (Array.push _ _).size
    rw [Array.size_push, s2]; omega
  have hb0 : Blk w0 w.heap.size [.slice ac q cc, .slice av l.length cv] 34 := by
    rw [hw0]
    exact ((Blk.new w [.slice ac q cc, .slice av l.length cv] _ rfl).alloc _).alloc _
  have hb1 : Blk w0 (w.heap.size + 1) [.slice none 0 0, .slice none 0 0] 34 := by
    rw [hw0]
    exact (Blk.new _ [.slice none 0 0, .slice none 0 0] _ s1.symm).alloc _
  have hb2 : Blk w0 (w.heap.size + 1 + 1) [.slice none 0 0, .slice none 0 0] 34 := by
    rw [hw0]
    exact Blk.new _ [.slice none 0 0, .slice none 0 0] _ s2.symm
  rw [← hw0]
  clear hw0 s1 s2
  have Hb0 := Lib.hid hb0
  have Hb1 := Lib.hid hb1
  have Hb2 := Lib.hid hb2
  have HB0 := Lib.hid hB0
  obtain ⟨d0, d1⟩ := hb0.cells.c2
  simp only [Nat.zero_add] at d1
  obtain ⟨e0, e1⟩ := hb2.cells.c2
  simp only [Nat.zero_add] at e1
  have f0 := hb2.free 0
  have f1 := hb2.free 1
  obtain ⟨v1, w1, hr1, ho1, ha1⟩ := appTL (lo := w0.heap.size) (Own.nil _ _ _ _ w0) (Sl.below Hc.out Strs.loc hB0 hhc) (by simp only [List.length_nil]; omega) (Nat.le_refl _)
  rw [List.nil_append] at ho1
  have hB1 : Below w0.heap.size w0 w1 := ha1.below (Nat.le_refl _) (fun k e => by cases e)
  have hc2 := Hb2.out.below hB1 hz0
  obtain ⟨p1, c1, ev1⟩ := Own.slice ho1
  rw [← Hq.out] at ev1
  subst ev1
  have Ho1 := Lib.hid ho1
  have HB1 := Lib.hid hB1
  have Hc2 := Lib.hid hc2
  have g0 := hc2.free 0
  obtain ⟨j0, j1⟩ := hc2.cells.c2
  simp only [Nat.zero_add] at j1
  rw [← Hq.out] at hr1
  have h2b : Blk (w1.setCell ⟨w.heap.size + 1 + 1, 0, none⟩ (.slice p1 q c1)) (w.heap.size + 1 + 1) [.slice p1 q c1, .slice none 0 0] 34 := hc2.set 0 _
  have h2o : OwnT w0.heap.size (w1.setCell ⟨w.heap.size + 1 + 1, 0, none⟩ (.slice p1 q c1)) (.slice p1 q c1) cols := Own.setOther ho1 (fun e => by
    have := (Own.lt ho1 _ e).1
    simp only at this
    omega) _
  have h2B : Below (w.heap.size + 1 + 1) w0 (w1.setCell ⟨w.heap.size + 1 + 1, 0, none⟩ (.slice p1 q c1)) := (hB1.mono (by show w.heap.size + 1 + 1 ≤ _; omega)).setCell (p := ⟨w.heap.size + 1 + 1, 0, none⟩) (Nat.le_refl _) _
  have H2b := Lib.hid h2b
  have H2o := Lib.hid h2o
  have H2B := Lib.hid h2B
  have hb0c := Hb0.out.below h2B (by omega)
  obtain ⟨d0', d1'⟩ := hb0c.cells.c2
  simp only [Nat.zero_add] at d1'
  clear hb0 hb1 hb2 hB0 ho1 ha1 hB1 hc2 h2b h2o h2B hb0c
  go_wp2_with (at_builtin; refine AtApp.of ?_)
  refine AtApp.go hr1 rfl rfl rfl rfl ?_
  go_upto_region 3 with fail
  generalize w1.setCell ⟨w.heap.size + 1 + 1, 0, none⟩ (.slice p1 q c1) = w2 at *
  clear d0 d1 e0 e1 f0 f1 g0 hr1 j0 j1
  go_wp2_with fail
  go_loopw [15] (fun t15 wr => ∃ (k : Nat) (hs : List Value) (vk : Value), k ≤ l.length ∧ t15 = .int .i64 k ∧ Blk wr (w.heap.size + 1 + 1) [.slice p1 q c1, vk] 34 ∧ OwnT w0.heap.size wr (.slice p1 q c1) cols ∧ OwnR w0.heap.size wr vk hs (l.take k) ∧ Below (w.heap.size + 1 + 1) w0 wr ∧ w0.heap.size ≤ wr.heap.size) (fun t15 _ => l.length - (intOf t15).toNat)
  case atStart => exact ⟨0, [], _, Nat.zero_le _, rfl, H2b.out, H2o.out, OwnR.nil _ _, H2B.out, H2B.out.size⟩
  case round =>
    obtain ⟨k, hs, vk, hk, rfl, hbk, hok, hrk, hB, hz⟩ := hrel
    obtain ⟨wo, ewo⟩ : ∃ x, x = wr := ⟨_, rfl⟩
    subst ewo
    have Hbk := Lib.hid hbk
    have Hok := Lib.hid hok
    have Hrk := Lib.hid hrk
    have HB := Lib.hid hB
    have kk0 : (0 : Int) ≤ (k : Int) := by omega
    have HBw := Lib.hid (HB0.out.trans (hB.mono (by omega)))
    obtain ⟨po, co, epo⟩ := Own.slice hrk.own
    subst epo
    have hb0c := Hb0.out.below hB (by omega)
    have hb2l := hbk.lt
    obtain ⟨d0, d1⟩ := hb0c.cells.c2
    simp only [Nat.zero_add] at d1
    clear hbk hok hrk hB hb0c
    by_cases hlt : k < l.length
    · obtain ⟨ao', cap', e', -, -, -, hc⟩ := (Sl.below Hv.out rowE_loc HBw.out hhi).form
      injection e' with e1 e2 e3
      subst e1 e3
      obtain ⟨b, off, rfl, hb1, hb2, hcc⟩ := hc k hlt
      obtain ⟨cs, _, hcs, sv, rfl, hsv⟩ := hcc k hlt
      have g0 := hcs.c1
      rw [Nat.mul_one] at g0
      have kkl : (k : Int) < (l.length : Int) := by omega
      have hsl : hs.length ≤ k := by
        rw [Hrk.out.len, List.length_take]; omega
      have Hst : Hid (l.take (k + 1) = l.take k ++ [l[k]]) := Lib.hid (List.take_succ_eq_append_getElem hlt)
      have hxl := Hrl.out _ (List.getElem_mem hlt)
      have hslv := hsv
      obtain ⟨ay, cy, rfl, -, -, -, -⟩ := hslv.form
      clear hcc hcs hc hslv
      generalize l[k] = x at *
      obtain ⟨v2, w2', hr2, ho2, ha2⟩ := appVL (lo := wo.heap.size) (Own.nil _ _ _ _ wo) hsv (by simp only [List.length_nil]; omega) (Nat.le_refl _)
      rw [List.nil_append] at ho2
      have hB2 : Below wo.heap.size wo w2' := ha2.below (Nat.le_refl _) (fun k e => by cases e)
      have hzw2 := hB2.size
      have hbk2 := Hbk.out.below hB2 hb2l
      have hrk2 := Hrk.out.kept hB2
      have hok2 := Own.kept Hok.out hB2
      obtain ⟨p2, c2, ev2⟩ := Own.slice ho2
      subst ev2
      obtain ⟨v3, w3, hr3, ho3, ha3⟩ := appH1 hrk2.own p2 x.length c2 rfl (by omega) (by omega)
      have hya : ∀ q, (Value.slice p2 x.length c2).ownBlock = some q → (Value.slice po hs.length co).ownBlock ≠ some q := fun q hq2 e => by
        have h1 := (Own.lt ho2 q hq2).1
        have h2 := (Own.lt Hrk.out.own q e).2
        omega
      have hrk3 := hrk2.snoc (Own.lower ho2 hz) hya ho3 ha3
      rw [← Hst.out] at hrk3
      have hbk3 := ha3.blk hbk2 (Own.ne_blk hrk2.own hbk2 (by decide))
      have hok3 : OwnT w0.heap.size w3 (.slice p1 q c1) cols := Own.same hok2 (fun g hg => ha3.grown.block g (Own.lt hok2 g hg).2 (fun e => Own.apartT hok2 hrk2.own (by decide) hg e.symm))
      have hB3 : Below (w.heap.size + 1 + 1) w0 w3 := (HB.out.trans (hB2.mono (by omega))).trans (ha3.below (by omega) (fun q e => by have := (Own.lt hrk2.own q e).1; omega))
      have hzw3 := hB3.size
      obtain ⟨p3, c3, ev3⟩ := Own.slice ho3
      have el : (hs ++ [Value.slice p2 x.length c2]).length = hs.length + 1 := by simp
      rw [el] at ev3
      subst ev3
      have f1 := hbk3.free 1
      obtain ⟨i0, i1⟩ := hbk2.cells.c2
      simp only [Nat.zero_add] at i1
      obtain ⟨m0, m1⟩ := hbk3.cells.c2
      simp only [Nat.zero_add] at m1
      have hbk4 : Blk (w3.setCell ⟨w.heap.size + 1 + 1, 1, none⟩ (.slice p3 (hs.length + 1) c3)) (w.heap.size + 1 + 1) [.slice p1 q c1, .slice p3 (hs.length + 1) c3] 34 := hbk3.set 1 _
      have hok4 : OwnT w0.heap.size (w3.setCell ⟨w.heap.size + 1 + 1, 1, none⟩ (.slice p3 (hs.length + 1) c3)) (.slice p1 q c1) cols := Own.setOther hok3 (Own.ne_blk hok3 hbk3 (by decide)) _
      have hrk4 := hrk3.setBlk hbk3 (by decide) (by decide) 1 (.slice p3 (hs.length + 1) c3)
      have hB4 := hB3.setCell (p := ⟨w.heap.size + 1 + 1, 1, none⟩) (Nat.le_refl _) (.slice p3 (hs.length + 1) c3)
      have Hbk4 := Lib.hid hbk4
      have Hok4 := Lib.hid hok4
      have Hrk4 := Lib.hid hrk4
      have HB4 := Lib.hid hB4
      clear ho2 ha2 hB2 hbk2 hrk2 hok2 ho3 ha3 hya hrk3 hbk3 hok3 hB3 hbk4 hok4 hrk4 hB4 hsv
      go_wp2_with (at_builtin; refine AtApp.of ?_)
      refine AtApp.go hr2 rfl rfl rfl rfl ?_
      go_wp2_with (at_builtin; refine AtApp.of ?_)
      refine AtApp.go hr3 rfl rfl rfl rfl ?_
      go_wp2_with fail
      go_roundw
      case rel => exact ⟨k + 1, _, _, by omega, by go_num, Hbk4.out, Hok4.out, Hrk4.out, HB4.out, HB4.out.size⟩
      case measure => simp [intOf]; omega
    · obtain rfl : k = l.length := by omega
      have llt : ¬ ((l.length : Nat) : Int) < (l.length : Int) := by omega
      have hb1 := Hb1.out.below HB.out (by omega)
      have hrk := Hrk.out
      rw [List.take_length] at hrk
      have hsl : hs.length = l.length := hrk.len
      rw [hsl] at hrk
      have hb2c := Hbk.out
      rw [hsl] at hb2c
      obtain ⟨k0, k1⟩ := hb1.cells.c2
      simp only [Nat.zero_add] at k1
      have f0 := hb1.free 0
      have f1 := hb1.free 1
      have Hld := Lib.hid (hb2c.cells.runVar (P := Try.prog) (t := 34) (fun _ => by kernel_rfl) (fun _ => by kernel_rfl))
      obtain ⟨i0, i1⟩ := hb2c.cells.c2
      simp only [Nat.zero_add] at i1
      have hb1' := hb1.set 0 (.slice p1 q c1)
      have Hrv := Lib.hid ((hb1'.set 1 (.slice po l.length co)).cells.runVar (P := Try.prog) (t := 34) (fun _ => by kernel_rfl) (fun _ => by kernel_rfl))
      have hB5 := (HBw.out.setCell (p := ⟨w.heap.size + 1, 0, none⟩) (Nat.le_succ _) (.slice p1 q c1)).setCell (p := ⟨w.heap.size + 1, 1, none⟩) (Nat.le_succ _) (.slice po l.length co)
      have hok5 : OwnT w0.heap.size ((wo.setCell ⟨w.heap.size + 1, 0, none⟩ (.slice p1 q c1)).setCell ⟨w.heap.size + 1, 1, none⟩ (.slice po l.length co)) (.slice p1 q c1) cols := by
        have h1 := Own.setOther Hok.out (Own.ne_blk Hok.out hb1 (by decide)) (p := ⟨w.heap.size + 1, 0, none⟩) (.slice p1 q c1)
        exact Own.setOther h1 (Own.ne_blk h1 hb1' (by decide)) _
      have hrk5 := (hrk.setBlk hb1 (by decide) (by decide) 0 (.slice p1 q c1)).setBlk hb1' (by decide) (by decide) 1 (.slice po l.length co)
      have Hr := Lib.hid (HR.out _ _ _ hB5 ((OwnT.sl hok5).mono Strs.loc (by omega) (Nat.le_refl _)) ((OwnR.rws hrk5).mono rowE_loc (by omega) (Nat.le_refl _)))
      clear hb1 hrk hsl hb2c hb1' hB5 hok5 hrk5
      go_wp2_with fail
      exact ret_cell rfl rfl Hrv.out rfl Hr.out
end Go.Proofs.Ytpncblagjkbemaa
end

/- The document's Same on relations that are alike. (Printed by rown.py.) -/
section
set_option linter.unusedVariables false
set_option linter.unusedSimpArgs false
namespace Go.Proofs.Ytpncblagjkbemaa
open Go.RowKit
set_option linter.unusedVariables false
set_option linter.unusedSimpArgs false

theorem cmpR_self (x : List V) : cmpR x x = 0 := by rw [cmpR_cmp.self]
set_option maxRecDepth 100000 in
set_option maxHeartbeats 4000000 in
theorem Same_any (lo hi lo2 hi2 lc hc lc2 hc2 : Nat) (cols : List S) (l : List (List V)) (ca cb la lb : Value) (w : World) (hca : Strs lc hc w ca cols) (hcb : Strs lc2 hc2 w cb cols) (hla : Rws lo hi w la l) (hlb : Rws lo2 hi2 w lb l) (h1 : hc ≤ w.heap.size) (h2 : hc2 ≤ w.heap.size) (h3 : hi ≤ w.heap.size) (h4 : hi2 ≤ w.heap.size) (hrs : ∀ x ∈ l, ∀ a ∈ x, a.s.length ≤ 9223372036854775807) (R : Ending → World → Prop)
    (hR : ∀ w', Below w.heap.size w w' → R (.returned (.bool true)) w') : Calls Try.prog 56 #[.agg #[ca, la], .agg #[cb, lb]] w R := by
  have HR := Lib.hid hR
  have HCa := Lib.hid hca
  have HCb := Lib.hid hcb
  have HLa := Lib.hid hla
  have HLb := Lib.hid hlb
  have Hrs := Lib.hid hrs
  obtain ⟨aca, cca, rfl, -, -, -, -⟩ := hca.form
  obtain ⟨acb, ccb, rfl, -, -, -, -⟩ := hcb.form
  obtain ⟨ala, cla, rfl, -, -, -, -⟩ := hla.form
  obtain ⟨alb, clb, rfl, -, -, -, -⟩ := hlb.form
  have hql := hca.len
  have hml := hla.len
  clear hR hca hcb hla hlb hrs
  obtain ⟨q, hq⟩ : ∃ q, q = cols.length := ⟨_, rfl⟩
  obtain ⟨m, hm⟩ : ∃ m, m = l.length := ⟨_, rfl⟩
  rw [← hq, ← hm]
  rw [← hq] at hql
  rw [← hm] at hml
  have Hq := Lib.hid hq
  have Hm := Lib.hid hm
  clear hq hm
  go_enter Try.func56, Try.ntmps56
  go_upto_region 1 with fail
  obtain ⟨w0, hw0⟩ : ∃ w0, w0 = (w.alloc (.cells #[.slice aca q cca, .slice ala m cla] 53)).alloc (.cells #[.slice acb q ccb, .slice alb m clb] 53) := ⟨_, rfl⟩
  have s1 : (w.alloc (.cells #[.slice aca q cca, .slice ala m cla] 53)).heap.size = w.heap.size + 1 := Array.size_push _
  have hB0 : Below w.heap.size w w0 := by
    rw [hw0]
    exact (alloc_below w _).alloc (by rw [s1]; omega) _
  have hz0 : w.heap.size + 1 < w0.heap.size := by
    rw [hw0]
    show _ < (Array.push _ _).size
    rw [Array.size_push, s1]; omega
  have hb1 : Blk w0 w.heap.size [.slice aca q cca, .slice ala m cla] 53 := by
    rw [hw0]
    exact (Blk.new w [.slice aca q cca, .slice ala m cla] _ rfl).alloc _
  have hb2 : Blk w0 (w.heap.size + 1) [.slice acb q ccb, .slice alb m clb] 53 := by
    rw [hw0]
    exact Blk.new _ [.slice acb q ccb, .slice alb m clb] _ s1.symm
  rw [← hw0]
  clear hw0 s1
  have HB0 := Lib.hid hB0
  have HA := Lib.hid hb1
  have HBb := Lib.hid hb2
  obtain ⟨d0, d1⟩ := hb1.cells.c2
  simp only [Nat.zero_add] at d1
  obtain ⟨e0, e1⟩ := hb2.cells.c2
  simp only [Nat.zero_add] at e1
  clear hB0 hb1 hb2
  go_wp2_with fail
  go_loopw [5] (fun t5 wr => ∃ k : Nat, k ≤ q ∧ t5 = .int .i64 k ∧ Below w0.heap.size w0 wr) (fun t5 _ => q - (intOf t5).toNat)
  case atStart => exact ⟨0, Nat.zero_le _, rfl, Below.refl _ _⟩
  case round =>
    obtain ⟨k, hk, rfl, hB⟩ := hrel
    obtain ⟨wo, ewo⟩ : ∃ x, x = wr := ⟨_, rfl⟩
    subst ewo
    have hz := hB.size
    have HB := Lib.hid hB
    have HBw := Lib.hid (HB0.out.trans (hB.mono (by omega)))
    have kk0 : (0 : Int) ≤ (k : Int) := by omega
    have Hb1 := Lib.hid (HA.out.below hB (by omega))
    have Hb2 := Lib.hid (HBb.out.below hB hz0)
    clear hB d0 d1 e0 e1
    obtain ⟨d0, d1⟩ := Hb1.out.cells.c2
    simp only [Nat.zero_add] at d1
    obtain ⟨e0, e1⟩ := Hb2.out.cells.c2
    simp only [Nat.zero_add] at e1
    by_cases hlt : k < q
    · have hltc : k < cols.length := by rw [← Hq.out]; exact hlt
      obtain ⟨ao', cap', e', -, -, -, hc⟩ := (Sl.below HCa.out Strs.loc HBw.out h1).form
      injection e' with e1' e2' e3'
      subst e1' e3'
      obtain ⟨bx, ox, rfl, hb1, hb2, hcc⟩ := hc k hltc
      obtain ⟨cs, _, hcs, rfl⟩ := hcc k hltc
      have gx := hcs.c1
      rw [Nat.mul_one] at gx
      clear hc hcc hcs
      obtain ⟨ao', cap', e', -, -, -, hc⟩ := (Sl.below HCb.out Strs.loc HBw.out h2).form
      injection e' with e1' e2' e3'
      subst e1' e3'
      obtain ⟨by_, oy, rfl, hb3, hb4, hcc⟩ := hc k hltc
      obtain ⟨cs, _, hcs, rfl⟩ := hcc k hltc
      have gy := hcs.c1
      rw [Nat.mul_one] at gy
      clear hc hcc hcs
      generalize cols[k] = c at *
      have kkl : (k : Int) < (q : Int) := by omega
      go_upto_region 6 with fail
      refine wp_region_held_drew (S := fun w' => w' = wo.drew) (by kernel_rfl) rfl (fun hHeld => ?_)
      refine wpAnyH_take (i := 0) (v := .pointer (some ⟨w.heap.size, 0, none⟩)) rfl (by kernel_rfl) (by kernel_rfl) (by kernel_rfl) (fun _ _ _ h => h) (Or.inl ⟨by rfl, ?_⟩) hHeld ?_
      · intro w' hSw; subst hSw; go_simp <;> omega
      try simp only [Act.put, List.getElem_toArray, List.getElem_cons_succ, List.getElem_cons_zero, List.setIfInBounds_toArray, List.set_cons_zero, List.set_cons_succ]
      refine wpAnyH_take (i := 1) (v := .slice (some ⟨bx, ox, none⟩) q cca) rfl (by kernel_rfl) (by kernel_rfl) (by kernel_rfl) (fun _ _ _ h => h) (Or.inl ⟨by rfl, ?_⟩) hHeld ?_
      · intro w' hSw; subst hSw; have kx := d0; go_simp
      try simp only [Act.put, List.getElem_toArray, List.getElem_cons_succ, List.getElem_cons_zero, List.setIfInBounds_toArray, List.set_cons_zero, List.set_cons_succ]
      refine wpAnyH_take (i := 2) (v := .int .i64 ((k : Int))) rfl (by kernel_rfl) (by kernel_rfl) (by kernel_rfl) (fun _ _ _ h => h) (Or.inl ⟨by rfl, ?_⟩) hHeld ?_
      · intro w' hSw; subst hSw; go_simp <;> omega
      try simp only [Act.put, List.getElem_toArray, List.getElem_cons_succ, List.getElem_cons_zero, List.setIfInBounds_toArray, List.set_cons_zero, List.set_cons_succ]
      refine wpAnyH_take (i := 3) (v := .pointer (some ⟨bx, ox + k, none⟩)) rfl (by kernel_rfl) (by kernel_rfl) (by kernel_rfl) (fun _ _ _ h => h) (Or.inl ⟨by rfl, ?_⟩) hHeld ?_
      · intro w' hSw; subst hSw; go_simp <;> omega
      try simp only [Act.put, List.getElem_toArray, List.getElem_cons_succ, List.getElem_cons_zero, List.setIfInBounds_toArray, List.set_cons_zero, List.set_cons_succ]
      refine wpAnyH_take (i := 4) (v := .string ⟨c.toArray⟩) rfl (by kernel_rfl) (by kernel_rfl) (by kernel_rfl) (fun _ _ _ h => h) (Or.inl ⟨by rfl, ?_⟩) hHeld ?_
      · intro w' hSw; subst hSw; have kx := gx; go_simp
      try simp only [Act.put, List.getElem_toArray, List.getElem_cons_succ, List.getElem_cons_zero, List.setIfInBounds_toArray, List.set_cons_zero, List.set_cons_succ]
      refine wpAnyH_take (i := 5) (v := .pointer (some ⟨w.heap.size + 1, 0, none⟩)) rfl (by kernel_rfl) (by kernel_rfl) (by kernel_rfl) (fun _ _ _ h => h) (Or.inl ⟨by rfl, ?_⟩) hHeld ?_
      · intro w' hSw; subst hSw; go_simp <;> omega
      try simp only [Act.put, List.getElem_toArray, List.getElem_cons_succ, List.getElem_cons_zero, List.setIfInBounds_toArray, List.set_cons_zero, List.set_cons_succ]
      refine wpAnyH_take (i := 6) (v := .slice (some ⟨by_, oy, none⟩) q ccb) rfl (by kernel_rfl) (by kernel_rfl) (by kernel_rfl) (fun _ _ _ h => h) (Or.inl ⟨by rfl, ?_⟩) hHeld ?_
      · intro w' hSw; subst hSw; have kx := e0; go_simp
      try simp only [Act.put, List.getElem_toArray, List.getElem_cons_succ, List.getElem_cons_zero, List.setIfInBounds_toArray, List.set_cons_zero, List.set_cons_succ]
      refine wpAnyH_take (i := 7) (v := .int .i64 ((k : Int))) rfl (by kernel_rfl) (by kernel_rfl) (by kernel_rfl) (fun _ _ _ h => h) (Or.inl ⟨by rfl, ?_⟩) hHeld ?_
      · intro w' hSw; subst hSw; go_simp <;> omega
      try simp only [Act.put, List.getElem_toArray, List.getElem_cons_succ, List.getElem_cons_zero, List.setIfInBounds_toArray, List.set_cons_zero, List.set_cons_succ]
      refine wpAnyH_take (i := 8) (v := .pointer (some ⟨by_, oy + k, none⟩)) rfl (by kernel_rfl) (by kernel_rfl) (by kernel_rfl) (fun _ _ _ h => h) (Or.inl ⟨by rfl, ?_⟩) hHeld ?_
      · intro w' hSw; subst hSw; go_simp <;> omega
      try simp only [Act.put, List.getElem_toArray, List.getElem_cons_succ, List.getElem_cons_zero, List.setIfInBounds_toArray, List.set_cons_zero, List.set_cons_succ]
      refine wpAnyH_take (i := 9) (v := .string ⟨c.toArray⟩) rfl (by kernel_rfl) (by kernel_rfl) (by kernel_rfl) (fun _ _ _ h => h) (Or.inl ⟨by rfl, ?_⟩) hHeld ?_
      · intro w' hSw; subst hSw; have kx := gy; go_simp
      try simp only [Act.put, List.getElem_toArray, List.getElem_cons_succ, List.getElem_cons_zero, List.setIfInBounds_toArray, List.set_cons_zero, List.set_cons_succ]
      refine wpAnyH_take (i := 10) (v := .bool false) rfl (by kernel_rfl) (by kernel_rfl) (by kernel_rfl) (fun _ _ _ h => h) (Or.inl ⟨by rfl, ?_⟩) hHeld ?_
      · intro w' hSw; subst hSw; go_simp <;> omega
      try simp only [Act.put, List.getElem_toArray, List.getElem_cons_succ, List.getElem_cons_zero, List.setIfInBounds_toArray, List.set_cons_zero, List.set_cons_succ]
      refine wpAnyH_done (by kernel_rfl) ?_ _
      clear hHeld
      go_wp2_with fail
      go_roundw
      case rel => exact ⟨k + 1, by omega, by go_num, HB.out.drew⟩
      case measure => simp [intOf]; omega
    · obtain rfl : k = q := by omega
      go_upto_region 8 with fail
      go_wp2_with fail
      go_loopw [6] (fun t6 wr => ∃ k : Nat, k ≤ m ∧ t6 = .int .i64 k ∧ Below w0.heap.size w0 wr) (fun t6 _ => m - (intOf t6).toNat)
      case atStart => exact ⟨0, Nat.zero_le _, rfl, HB.out⟩
      case round =>
        clear HB HBw Hb1 Hb2 d0 d1 e0 e1 hz kk0
        obtain ⟨k, hk, rfl, hB⟩ := hrel
        obtain ⟨wo, ewo⟩ : ∃ x, x = wr := ⟨_, rfl⟩
        subst ewo
        have hz := hB.size
        have HB := Lib.hid hB
        have HBw := Lib.hid (HB0.out.trans (hB.mono (by omega)))
        have kk0 : (0 : Int) ≤ (k : Int) := by omega
        have Hb1 := Lib.hid (HA.out.below hB (by omega))
        have Hb2 := Lib.hid (HBb.out.below hB hz0)
        clear hB
        have hl1 : w.heap.size < wo.heap.size := by omega
        have hl2 : w.heap.size + 1 < wo.heap.size := by omega
        obtain ⟨d0, d1⟩ := Hb1.out.cells.c2
        simp only [Nat.zero_add] at d1
        by_cases hlt : k < m
        · have hltl : k < l.length := by rw [← Hm.out]; exact hlt
          obtain ⟨ao', cap', e', -, -, -, hc⟩ := (Sl.below HLa.out rowE_loc HBw.out h3).form
          injection e' with e1' e2' e3'
          subst e1' e3'
          obtain ⟨bx, ox, rfl, hb1, hb2, hcc⟩ := hc k hltl
          obtain ⟨cs, _, hcs, sv, rfl, hsv⟩ := hcc k hltl
          have Hca := Lib.hid hcs
          have Hrx := Lib.hid hsv
          obtain ⟨ax, cx, rfl, -, -, -, -⟩ := hsv.form
          clear hc hcc hcs hsv
          obtain ⟨ao', cap', e', -, -, -, hc⟩ := (Sl.below HLb.out rowE_loc HBw.out h4).form
          injection e' with e1' e2' e3'
          subst e1' e3'
          obtain ⟨by_, oy, rfl, hb3, hb4, hcc⟩ := hc k hltl
          obtain ⟨cs, _, hcs, sv, rfl, hsv⟩ := hcc k hltl
          have Hcb := Lib.hid hcs
          have Hry := Lib.hid hsv
          obtain ⟨ay, cy, rfl, -, -, -, -⟩ := hsv.form
          clear hc hcc hcs hsv
          have hbxw : bx < wo.heap.size := by omega
          have hbyw : by_ < wo.heap.size := by omega
          have Hsx := Lib.hid (Hrs.out _ (List.getElem_mem hltl))
          generalize l[k] = x at *
          have kkl : (k : Int) < (m : Int) := by omega
          go_upto_region 11 with fail
          have hS0 : Below wo.heap.size wo wo.drew := (Below.refl _ _).drew
          refine wp_region_held_drew (S := fun w' => Below wo.heap.size wo w') (by kernel_rfl) hS0 (fun hHeld => ?_)
          refine wpAnyH_take (i := 0) (v := .pointer (some ⟨w.heap.size, 1, none⟩)) rfl (by kernel_rfl) (by kernel_rfl) (by kernel_rfl) (fun _ _ _ h => h) (Or.inl ⟨by rfl, ?_⟩) hHeld ?_
          · intro w' hSw; go_simp
          try simp only [Act.put, List.getElem_toArray, List.getElem_cons_succ, List.getElem_cons_zero, List.setIfInBounds_toArray, List.set_cons_zero, List.set_cons_succ]
          refine wpAnyH_take (i := 1) (v := .slice (some ⟨bx, ox, none⟩) m cla) rfl (by kernel_rfl) (by kernel_rfl) (by kernel_rfl) (fun _ _ _ h => h) (Or.inl ⟨by rfl, ?_⟩) hHeld ?_
          · intro w' hSw; obtain ⟨z0, z1⟩ := (Hb1.out.below hSw hl1).cells.c2; simp only [Nat.zero_add] at z1; go_simp
          try simp only [Act.put, List.getElem_toArray, List.getElem_cons_succ, List.getElem_cons_zero, List.setIfInBounds_toArray, List.set_cons_zero, List.set_cons_succ]
          refine wpAnyH_take (i := 2) (v := .int .i64 ((k : Int))) rfl (by kernel_rfl) (by kernel_rfl) (by kernel_rfl) (fun _ _ _ h => h) (Or.inl ⟨by rfl, ?_⟩) hHeld ?_
          · intro w' hSw; go_simp
          try simp only [Act.put, List.getElem_toArray, List.getElem_cons_succ, List.getElem_cons_zero, List.setIfInBounds_toArray, List.set_cons_zero, List.set_cons_succ]
          refine wpAnyH_take (i := 3) (v := .pointer (some ⟨bx, ox + k, none⟩)) rfl (by kernel_rfl) (by kernel_rfl) (by kernel_rfl) (fun _ _ _ h => h) (Or.inl ⟨by rfl, ?_⟩) hHeld ?_
          · intro w' hSw; go_simp
          try simp only [Act.put, List.getElem_toArray, List.getElem_cons_succ, List.getElem_cons_zero, List.setIfInBounds_toArray, List.set_cons_zero, List.set_cons_succ]
          refine wpAnyH_take (i := 4) (v := .slice ax x.length cx) rfl (by kernel_rfl) (by kernel_rfl) (by kernel_rfl) (fun _ _ _ h => h) (Or.inl ⟨by rfl, ?_⟩) hHeld ?_
          · intro w' hSw; have kx := (Hca.out.agree (.below hSw (Nat.le_refl _)) (Nat.zero_le _) hbxw).c1; rw [Nat.mul_one] at kx; go_simp
          try simp only [Act.put, List.getElem_toArray, List.getElem_cons_succ, List.getElem_cons_zero, List.setIfInBounds_toArray, List.set_cons_zero, List.set_cons_succ]
          refine wpAnyH_take (i := 5) (v := .pointer (some ⟨w.heap.size + 1, 1, none⟩)) rfl (by kernel_rfl) (by kernel_rfl) (by kernel_rfl) (fun _ _ _ h => h) (Or.inl ⟨by rfl, ?_⟩) hHeld ?_
          · intro w' hSw; go_simp
          try simp only [Act.put, List.getElem_toArray, List.getElem_cons_succ, List.getElem_cons_zero, List.setIfInBounds_toArray, List.set_cons_zero, List.set_cons_succ]
          refine wpAnyH_take (i := 6) (v := .slice (some ⟨by_, oy, none⟩) m clb) rfl (by kernel_rfl) (by kernel_rfl) (by kernel_rfl) (fun _ _ _ h => h) (Or.inl ⟨by rfl, ?_⟩) hHeld ?_
          · intro w' hSw; obtain ⟨z0, z1⟩ := (Hb2.out.below hSw hl2).cells.c2; simp only [Nat.zero_add] at z1; go_simp
          try simp only [Act.put, List.getElem_toArray, List.getElem_cons_succ, List.getElem_cons_zero, List.setIfInBounds_toArray, List.set_cons_zero, List.set_cons_succ]
          refine wpAnyH_take (i := 7) (v := .int .i64 ((k : Int))) rfl (by kernel_rfl) (by kernel_rfl) (by kernel_rfl) (fun _ _ _ h => h) (Or.inl ⟨by rfl, ?_⟩) hHeld ?_
          · intro w' hSw; go_simp
          try simp only [Act.put, List.getElem_toArray, List.getElem_cons_succ, List.getElem_cons_zero, List.setIfInBounds_toArray, List.set_cons_zero, List.set_cons_succ]
          refine wpAnyH_take (i := 8) (v := .pointer (some ⟨by_, oy + k, none⟩)) rfl (by kernel_rfl) (by kernel_rfl) (by kernel_rfl) (fun _ _ _ h => h) (Or.inl ⟨by rfl, ?_⟩) hHeld ?_
          · intro w' hSw; go_simp
          try simp only [Act.put, List.getElem_toArray, List.getElem_cons_succ, List.getElem_cons_zero, List.setIfInBounds_toArray, List.set_cons_zero, List.set_cons_succ]
          refine wpAnyH_take (i := 9) (v := .slice ay x.length cy) rfl (by kernel_rfl) (by kernel_rfl) (by kernel_rfl) (fun _ _ _ h => h) (Or.inl ⟨by rfl, ?_⟩) hHeld ?_
          · intro w' hSw; have kx := (Hcb.out.agree (.below hSw (Nat.le_refl _)) (Nat.zero_le _) hbyw).c1; rw [Nat.mul_one] at kx; go_simp
          try simp only [Act.put, List.getElem_toArray, List.getElem_cons_succ, List.getElem_cons_zero, List.setIfInBounds_toArray, List.set_cons_zero, List.set_cons_succ]
          refine wpAnyH_ready (rs := [10]) (by kernel_rfl) (by simp) ?_
          refine allCall (f := 25) (args := #[.slice ax x.length cx, .slice ay x.length cy]) rfl (by kernel_rfl) (by kernel_rfl) ?_ AllReadyH.nil
          refine refRowsCompare_any lo hi lo2 hi2 x x _ _ wo.drew (Sl.below Hrx.out Row1.loc hS0 (by omega)) (Sl.below Hry.out Row1.loc hS0 (by omega)) (by show hi ≤ wo.heap.size; omega) (by show hi2 ≤ wo.heap.size; omega) Hsx.out Hsx.out _ (fun w5 hB5 => ?_)
          rw [cmpR_self]
          refine ⟨_, rfl, hS0.trans (hB5.mono (Nat.le_refl _)), ?_⟩
          have HB5 := Lib.hid (hS0.trans (hB5.mono (Nat.le_refl _)))
          clear hB5 hHeld
          have hHeld := HB5.out
          try simp only [Act.put, List.getElem_toArray, List.getElem_cons_succ, List.getElem_cons_zero, List.setIfInBounds_toArray, List.set_cons_zero, List.set_cons_succ]
          refine wpAnyH_take (i := 11) (v := .int .i64 0) rfl (by kernel_rfl) (by kernel_rfl) (by kernel_rfl) (fun _ _ _ h => h) (Or.inl ⟨by rfl, ?_⟩) hHeld ?_
          · intro w' hSw; go_simp
          try simp only [Act.put, List.getElem_toArray, List.getElem_cons_succ, List.getElem_cons_zero, List.setIfInBounds_toArray, List.set_cons_zero, List.set_cons_succ]
          refine wpAnyH_done (by kernel_rfl) ?_ _
          clear hHeld
          go_wp2_with fail
          go_roundw
          case rel => exact ⟨k + 1, by omega, by go_num, HB.out.trans (HB5.out.mono hz)⟩
          case measure => simp [intOf]; omega
        · obtain rfl : k = m := by omega
          have llt : ¬ ((k : Nat) : Int) < (k : Int) := by omega
          have hr := HR.out _ HBw.out
          go_wp2_with fail
          first | exact hr | exact fin hr rfl
end Go.Proofs.Ytpncblagjkbemaa
end

/- The law's same on relations that are alike. (Printed by rowo.py.) -/
section
set_option linter.unusedVariables false
set_option linter.unusedSimpArgs false
namespace Go.Proofs.Ytpncblagjkbemaa
open Go.RowKit
set_option linter.unusedVariables false
set_option linter.unusedSimpArgs false

set_option maxRecDepth 100000 in
set_option maxHeartbeats 4000000 in
theorem lawSame_any (lo hi lo2 hi2 lc hc lc2 hc2 : Nat) (cols : List S) (l : List (List V)) (ca cb la lb : Value) (w : World) (hca : Strs lc hc w ca cols) (hcb : Strs lc2 hc2 w cb cols) (hla : Rws lo hi w la l) (hlb : Rws lo2 hi2 w lb l) (h1 : hc ≤ w.heap.size) (h2 : hc2 ≤ w.heap.size) (h3 : hi ≤ w.heap.size) (h4 : hi2 ≤ w.heap.size) (hrs : ∀ x ∈ l, ∀ a ∈ x, a.s.length ≤ 9223372036854775807) (R : Ending → World → Prop)
    (hR : ∀ w', Below w.heap.size w w' → R (.returned (.bool true)) w') : Calls Try.prog 29 #[.agg #[ca, la], .agg #[cb, lb]] w R := by
  have HR := Lib.hid hR
  have HCa := Lib.hid hca
  have HCb := Lib.hid hcb
  have HLa := Lib.hid hla
  have HLb := Lib.hid hlb
  have Hrs := Lib.hid hrs
  obtain ⟨aca, cca, rfl, -, -, -, -⟩ := hca.form
  obtain ⟨acb, ccb, rfl, -, -, -, -⟩ := hcb.form
  obtain ⟨ala, cla, rfl, -, -, -, -⟩ := hla.form
  obtain ⟨alb, clb, rfl, -, -, -, -⟩ := hlb.form
  clear hR hca hcb hla hlb hrs
  go_enter Try.func29, Try.ntmps29
  go_upto_region 1 with fail
  obtain ⟨w0, hw0⟩ : ∃ w0, w0 = (w.alloc (.cells #[.slice aca cols.length cca, .slice ala l.length cla] 34)).alloc (.cells #[.slice acb cols.length ccb, .slice alb l.length clb] 34) := ⟨_, rfl⟩
  have s1 : (w.alloc (.cells #[.slice aca cols.length cca, .slice ala l.length cla] 34)).heap.size = w.heap.size + 1 := Array.size_push _
  have hB0 : Below w.heap.size w w0 := by
    rw [hw0]
    exact (alloc_below w _).alloc (by rw [s1]; omega) _
  have hz0 : w.heap.size + 1 < w0.heap.size := by
    rw [hw0]
    show _ < (Array.push _ _).size
    rw [Array.size_push, s1]; omega
  have hb1 : Blk w0 w.heap.size [.slice aca cols.length cca, .slice ala l.length cla] 34 := by
    rw [hw0]
    exact (Blk.new w [.slice aca cols.length cca, .slice ala l.length cla] _ rfl).alloc _
  have hb2 : Blk w0 (w.heap.size + 1) [.slice acb cols.length ccb, .slice alb l.length clb] 34 := by
    rw [hw0]
    exact Blk.new _ [.slice acb cols.length ccb, .slice alb l.length clb] _ s1.symm
  rw [← hw0]
  clear hw0 s1
  have HB0 := Lib.hid hB0
  have HA := Lib.hid hb1
  have HBb := Lib.hid hb2
  have hb1l : w.heap.size < w0.heap.size := by omega
  clear hB0 hb1 hb2
  have hS0 : Below w0.heap.size w0 w0.drew := (Below.refl _ _).drew
  refine wp_region_held_drew (S := fun w' => Below w0.heap.size w0 w') (by kernel_rfl) hS0 (fun hHeld => ?_)
  refine wpAnyH_take (i := 0) (v := .agg #[.slice aca cols.length cca, .slice ala l.length cla]) rfl (by kernel_rfl) (by kernel_rfl) (by kernel_rfl) (fun _ _ _ h => h) (Or.inl ⟨by rfl, ?_⟩) hHeld ?_
  · intro w' hSw; have kx := (HA.out.below hSw hb1l).cells.runVar (P := Try.prog) (t := 34) (fun _ => by kernel_rfl) (fun _ => by kernel_rfl); obtain ⟨z0, z1⟩ := (HA.out.below hSw hb1l).cells.c2; simp only [Nat.zero_add] at z1; go_simp
  try simp only [Act.put, List.getElem_toArray, List.getElem_cons_succ, List.getElem_cons_zero, List.setIfInBounds_toArray, List.set_cons_zero, List.set_cons_succ]
  refine wpAnyH_take (i := 2) (v := .agg #[.slice acb cols.length ccb, .slice alb l.length clb]) rfl (by kernel_rfl) (by kernel_rfl) (by kernel_rfl) (fun _ _ _ h => h) (Or.inl ⟨by rfl, ?_⟩) hHeld ?_
  · intro w' hSw; have kx := (HBb.out.below hSw hz0).cells.runVar (P := Try.prog) (t := 34) (fun _ => by kernel_rfl) (fun _ => by kernel_rfl); obtain ⟨z0, z1⟩ := (HBb.out.below hSw hz0).cells.c2; simp only [Nat.zero_add] at z1; go_simp
  try simp only [Act.put, List.getElem_toArray, List.getElem_cons_succ, List.getElem_cons_zero, List.setIfInBounds_toArray, List.set_cons_zero, List.set_cons_succ]
  refine wpAnyH_ready (rs := [1]) (by kernel_rfl) (by simp) ?_
  refine allCall (f := 32) (args := #[.agg #[.slice aca cols.length cca, .slice ala l.length cla]]) rfl (by kernel_rfl) (by kernel_rfl) ?_ AllReadyH.nil
  refine ref_any _ _ _ _ _ _ w0.drew _ (fun wq1 hB => ?_)
  refine ⟨_, rfl, hHeld.trans (hB.mono hHeld.size), ?_⟩
  have hHeld2 := hHeld.trans (hB.mono hHeld.size)
  clear hHeld
  have hHeld := hHeld2
  clear hHeld2
  clear hB
  try simp only [Act.put, List.getElem_toArray, List.getElem_cons_succ, List.getElem_cons_zero, List.setIfInBounds_toArray, List.set_cons_zero, List.set_cons_succ]
  refine wpAnyH_ready (rs := [3]) (by kernel_rfl) (by simp) ?_
  refine allCall (f := 32) (args := #[.agg #[.slice acb cols.length ccb, .slice alb l.length clb]]) rfl (by kernel_rfl) (by kernel_rfl) ?_ AllReadyH.nil
  refine ref_any _ _ _ _ _ _ wq1 _ (fun wq2 hB => ?_)
  refine ⟨_, rfl, hHeld.trans (hB.mono hHeld.size), ?_⟩
  have hHeld2 := hHeld.trans (hB.mono hHeld.size)
  clear hHeld
  have hHeld := hHeld2
  clear hHeld2
  clear hB
  try simp only [Act.put, List.getElem_toArray, List.getElem_cons_succ, List.getElem_cons_zero, List.setIfInBounds_toArray, List.set_cons_zero, List.set_cons_succ]
  refine wpAnyH_ready (rs := [4]) (by kernel_rfl) (by simp) ?_
  refine allCall (f := 56) (args := #[.agg #[.slice aca cols.length cca, .slice ala l.length cla], .agg #[.slice acb cols.length ccb, .slice alb l.length clb]]) rfl (by kernel_rfl) (by kernel_rfl) ?_ AllReadyH.nil
  refine Same_any lo hi lo2 hi2 lc hc lc2 hc2 cols l _ _ _ _ wq2 (Sl.below HCa.out Strs.loc (HB0.out.trans (hHeld.mono (by omega))) h1) (Sl.below HCb.out Strs.loc (HB0.out.trans (hHeld.mono (by omega))) h2) (Sl.below HLa.out rowE_loc (HB0.out.trans (hHeld.mono (by omega))) h3) (Sl.below HLb.out rowE_loc (HB0.out.trans (hHeld.mono (by omega))) h4) (by have := hHeld.size; omega) (by have := hHeld.size; omega) (by have := hHeld.size; omega) (by have := hHeld.size; omega) Hrs.out _ (fun wq3 hB => ?_)
  refine ⟨_, rfl, hHeld.trans (hB.mono hHeld.size), ?_⟩
  have hHeld2 := hHeld.trans (hB.mono hHeld.size)
  clear hHeld
  have hHeld := hHeld2
  clear hHeld2
  clear hB
  try simp only [Act.put, List.getElem_toArray, List.getElem_cons_succ, List.getElem_cons_zero, List.setIfInBounds_toArray, List.set_cons_zero, List.set_cons_succ]
  refine wpAnyH_take (i := 5) (v := .bool true) rfl (by kernel_rfl) (by kernel_rfl) (by kernel_rfl) (fun _ _ _ h => h) (Or.inl ⟨by rfl, ?_⟩) hHeld ?_
  · intro w' hSw; go_simp
  try simp only [Act.put, List.getElem_toArray, List.getElem_cons_succ, List.getElem_cons_zero, List.setIfInBounds_toArray, List.set_cons_zero, List.set_cons_succ]
  have HH2 := Lib.hid hHeld
  refine wpAnyH_done (by kernel_rfl) ?_ _
  clear hHeld
  have hr := HR.out _ (HB0.out.trans (HH2.out.mono (by omega)))
  go_wp2_with fail
  first | exact hr | exact fin hr rfl
end Go.Proofs.Ytpncblagjkbemaa
end

/- The document's: may a relation be? (Printed by rowv.py.) -/
section
set_option linter.unusedVariables false
set_option linter.unusedSimpArgs false
namespace Go.Proofs.Ytpncblagjkbemaa
open Go.RowKit
set_option linter.unusedVariables false
set_option linter.unusedSimpArgs false

set_option maxRecDepth 100000 in
set_option maxHeartbeats 4000000 in
theorem refMay_any (lo hi lc hc : Nat) (cols : List S) (ac : Option Addr) (cc : Nat) (l : List (List V)) (lv : Value) (w : World) (hcols : Strs lc hc w (.slice ac cols.length cc) cols) (hhc : hc ≤ w.heap.size) (hv : Rws lo hi w lv l) (hhi : hi ≤ w.heap.size) (hrs : ∀ x ∈ l, ∀ a ∈ x, a.s.length ≤ 9223372036854775807) (R : Ending → World → Prop)
    (hR : ∀ w', Below w.heap.size w w' → R (.returned (.bool (mayRel cols l))) w') : Calls Try.prog 37 #[.agg #[.slice ac cols.length cc, lv]] w R := by
  have HR := Lib.hid hR
  have Hv := Lib.hid hv
  have Hc := Lib.hid hcols
  have Hrs := Lib.hid hrs
  obtain ⟨av, cv2, rfl, -, -, -, -⟩ := hv.form
  have hll := hv.len
  clear hR hv hcols hrs
  go_enter Try.func37, Try.ntmps37
  go_upto_region 1 with fail
  have hBa := (Below.refl w.heap.size w).alloc (Nat.le_refl _) (.cells #[.slice ac cols.length cc, .slice av l.length cv2] 53)
  have hba := Blk.new w [.slice ac cols.length cc, .slice av l.length cv2] 53 rfl
  generalize w.alloc (.cells #[.slice ac cols.length cc, .slice av l.length cv2] 53) = w1 at *
  have HBa := Lib.hid hBa
  have Hba := Lib.hid hba
  have hz1 := hBa.size
  have hbl := hba.lt
  obtain ⟨d0, d1⟩ := hba.cells.c2
  simp only [Nat.zero_add] at d1
  clear hBa hba
  go_wp2_with fail
  refine refOnce_any lc hc cols _ _ (Sl.below Hc.out Strs.loc HBa.out hhc) _ ?_
  cases ho : onceB cols
  · have hr := HR.out w1 HBa.out
    rw [show mayRel cols l = false by unfold mayRel; rw [ho]; rfl] at hr
    clear ho
    go_wp2_with fail
    first | exact hr | exact fin hr rfl
  have Ho := Lib.hid ho
  clear ho
  by_cases hgt : 100000 < l.length
  · have hr := HR.out w1 HBa.out
    rw [show mayRel cols l = false by unfold mayRel; rw [decide_eq_false (by omega)]; simp] at hr
    have c1 : (100000 : Int) < (l.length : Int) := by omega
    go_wp2_with fail
    first | exact hr | exact fin hr rfl
  have c1 : ¬ (100000 : Int) < (l.length : Int) := by omega
  go_wp2_with fail
  go_loopw [4] (fun t4 wr => ∃ k : Nat, k ≤ l.length ∧ t4 = .int .i64 k ∧ (∀ i, i < k → mayAt cols l i = true) ∧ Below w1.heap.size w1 wr) (fun t4 _ => l.length - (intOf t4).toNat)
  case atStart => exact ⟨0, Nat.zero_le _, rfl, fun i hi => absurd hi (Nat.not_lt_zero _), Below.refl _ _⟩
  case round =>
    obtain ⟨k, hk, rfl, hok, hB⟩ := hrel
    obtain ⟨wo, ewo⟩ : ∃ x, x = wr := ⟨_, rfl⟩
    subst ewo
    clear d0 d1
    have Hok := Lib.hid hok
    have HB := Lib.hid hB
    have HBw := Lib.hid (HBa.out.trans (hB.mono hz1))
    have hz := HBw.out.size
    have kk0 : (0 : Int) ≤ (k : Int) := by omega
    have Hbo := Lib.hid (Hba.out.below hB hbl)
    obtain ⟨d0, d1⟩ := Hbo.out.cells.c2
    simp only [Nat.zero_add] at d1
    have hzo := hB.size
    clear hB hok
    by_cases hlt : k < l.length
    · have kkl : (k : Int) < (l.length : Int) := by omega
      have Hvl := Lib.hid (Sl.below Hv.out rowE_loc HBw.out hhi)
      obtain ⟨b4, o4, rfl, hb4, hrow4⟩ := Rws.at Hvl.out (by omega) (by omega)
      obtain ⟨p2, c2, g2, r2⟩ := hrow4 k hlt
      have G2 := Lib.hid g2
      have R2 := Lib.hid r2
      have M2 := Lib.hid (Hrs.out _ (List.getElem_mem hlt))
      have hxl := r2.len
      by_cases hne : l[k].length = cols.length
      · have He : Hid (l[k].length = cols.length) := Lib.hid hne
        have c3 : ((l[k].length : Int) != (cols.length : Int)) = false := by simp; omega
        by_cases hk0 : k = 0
        · have Hk0 : Hid (k = 0) := Lib.hid hk0
          have hnx : Hid (∀ i, i < k + 1 → mayAt cols l i = true) := Lib.hid (fun i hi => by
            obtain rfl : i = 0 := by omega
            unfold mayAt
            rw [getDS l _ 0 (by omega)]
            have := He.out
            subst hk0
            simp [this])
          have c4 : ((k : Int) == 0) = true := by simp; omega
          clear hrow4 g2 r2 hne hk0
          generalize l[k] = xb at *
          go_upto_region 7 with fail
          skip
          refine wp_region_held_drew (S := fun w' => w' = wo.drew) (by kernel_rfl) rfl (fun hHeld => ?_)
          refine wpAnyH_take (i := 0) (v := .pointer (some ⟨w.heap.size, 1, none⟩)) rfl (by kernel_rfl) (by kernel_rfl) (by kernel_rfl) (fun _ _ _ h => h) (Or.inl ⟨by rfl, ?_⟩) hHeld ?_
          · intro w' hSw; subst hSw; go_simp <;> omega
          try simp only [Act.put, List.getElem_toArray, List.getElem_cons_succ, List.getElem_cons_zero, List.setIfInBounds_toArray, List.set_cons_zero, List.set_cons_succ]
          refine wpAnyH_take (i := 1) (v := .slice (some ⟨b4, o4, none⟩) l.length cv2) rfl (by kernel_rfl) (by kernel_rfl) (by kernel_rfl) (fun _ _ _ h => h) (Or.inl ⟨by rfl, ?_⟩) hHeld ?_
          · intro w' hSw; subst hSw; have kx := d1; go_simp
          try simp only [Act.put, List.getElem_toArray, List.getElem_cons_succ, List.getElem_cons_zero, List.setIfInBounds_toArray, List.set_cons_zero, List.set_cons_succ]
          refine wpAnyH_take (i := 2) (v := .int .i64 ((k : Int))) rfl (by kernel_rfl) (by kernel_rfl) (by kernel_rfl) (fun _ _ _ h => h) (Or.inl ⟨by rfl, ?_⟩) hHeld ?_
          · intro w' hSw; subst hSw; go_simp <;> omega
          try simp only [Act.put, List.getElem_toArray, List.getElem_cons_succ, List.getElem_cons_zero, List.setIfInBounds_toArray, List.set_cons_zero, List.set_cons_succ]
          refine wpAnyH_take (i := 3) (v := .pointer (some ⟨b4, o4 + k, none⟩)) rfl (by kernel_rfl) (by kernel_rfl) (by kernel_rfl) (fun _ _ _ h => h) (Or.inl ⟨by rfl, ?_⟩) hHeld ?_
          · intro w' hSw; subst hSw; go_simp <;> omega
          try simp only [Act.put, List.getElem_toArray, List.getElem_cons_succ, List.getElem_cons_zero, List.setIfInBounds_toArray, List.set_cons_zero, List.set_cons_succ]
          refine wpAnyH_take (i := 4) (v := .slice p2 xb.length c2) rfl (by kernel_rfl) (by kernel_rfl) (by kernel_rfl) (fun _ _ _ h => h) (Or.inl ⟨by rfl, ?_⟩) hHeld ?_
          · intro w' hSw; subst hSw; have kx := G2.out _ (Below.refl _ _); go_simp
          try simp only [Act.put, List.getElem_toArray, List.getElem_cons_succ, List.getElem_cons_zero, List.setIfInBounds_toArray, List.set_cons_zero, List.set_cons_succ]
          refine wpAnyH_take (i := 5) (v := .int .i64 ((xb.length : Int))) rfl (by kernel_rfl) (by kernel_rfl) (by kernel_rfl) (fun _ _ _ h => h) (Or.inl ⟨by rfl, ?_⟩) hHeld ?_
          · intro w' hSw; subst hSw; go_simp <;> omega
          try simp only [Act.put, List.getElem_toArray, List.getElem_cons_succ, List.getElem_cons_zero, List.setIfInBounds_toArray, List.set_cons_zero, List.set_cons_succ]
          refine wpAnyH_take (i := 6) (v := .pointer (some ⟨w.heap.size, 0, none⟩)) rfl (by kernel_rfl) (by kernel_rfl) (by kernel_rfl) (fun _ _ _ h => h) (Or.inl ⟨by rfl, ?_⟩) hHeld ?_
          · intro w' hSw; subst hSw; go_simp <;> omega
          try simp only [Act.put, List.getElem_toArray, List.getElem_cons_succ, List.getElem_cons_zero, List.setIfInBounds_toArray, List.set_cons_zero, List.set_cons_succ]
          refine wpAnyH_take (i := 7) (v := .slice ac cols.length cc) rfl (by kernel_rfl) (by kernel_rfl) (by kernel_rfl) (fun _ _ _ h => h) (Or.inl ⟨by rfl, ?_⟩) hHeld ?_
          · intro w' hSw; subst hSw; have kx := d0; go_simp
          try simp only [Act.put, List.getElem_toArray, List.getElem_cons_succ, List.getElem_cons_zero, List.setIfInBounds_toArray, List.set_cons_zero, List.set_cons_succ]
          refine wpAnyH_take (i := 8) (v := .int .i64 ((cols.length : Int))) rfl (by kernel_rfl) (by kernel_rfl) (by kernel_rfl) (fun _ _ _ h => h) (Or.inl ⟨by rfl, ?_⟩) hHeld ?_
          · intro w' hSw; subst hSw; go_simp <;> omega
          try simp only [Act.put, List.getElem_toArray, List.getElem_cons_succ, List.getElem_cons_zero, List.setIfInBounds_toArray, List.set_cons_zero, List.set_cons_succ]
          refine wpAnyH_take (i := 9) (v := .bool false) rfl (by kernel_rfl) (by kernel_rfl) (by kernel_rfl) (fun _ _ _ h => h) (Or.inl ⟨by rfl, ?_⟩) hHeld ?_
          · intro w' hSw; subst hSw; go_simp <;> omega
          try simp only [Act.put, List.getElem_toArray, List.getElem_cons_succ, List.getElem_cons_zero, List.setIfInBounds_toArray, List.set_cons_zero, List.set_cons_succ]
          refine wpAnyH_done (by kernel_rfl) ?_ _
          clear hHeld
          go_wp2_with fail
          go_roundw
          case rel => exact ⟨k + 1, by omega, by go_num, hnx.out, HB.out.drew⟩
          case measure => simp [intOf]; omega
        · obtain ⟨j, ej⟩ : ∃ j, j = k - 1 := ⟨_, rfl⟩
          have hjl : j < l.length := by omega
          have hkj : (k : Int) - 1 = (j : Int) := by omega
          have jj0 : (0 : Int) ≤ (j : Int) := by omega
          have jjl : (j : Int) < (l.length : Int) := by omega
          have c4 : ((k : Int) == 0) = false := by simp; omega
          obtain ⟨p1, c1', g1, r1⟩ := hrow4 j hjl
          have G1 := Lib.hid g1
          have R1 := Lib.hid r1
          have M1 := Lib.hid (Hrs.out _ (List.getElem_mem hjl))
          have Hat : Hid (mayAt cols l k = decide (cmpR l[j] l[k] < 0)) := Lib.hid (by
            unfold mayAt
            rw [getDS l _ k hlt, getDS l _ (k - 1) (by omega), He.out]
            subst ej
            simp [hk0])
          have Hno : Hid (mayAt cols l k = false → mayRel cols l = false) := Lib.hid (mayRel_no hlt)
          have Hnx : Hid (mayAt cols l k = true → ∀ i, i < k + 1 → mayAt cols l i = true) := Lib.hid (fun h i hi => by
            by_cases e : i = k
            · rw [e]; exact h
            · exact Hok.out i (by omega))
          clear hrow4 g2 r2 g1 r1 hne ej hk0
          generalize l[k] = xb at *
          generalize l[j] = xa at *
          go_upto_region 7 with fail
          refine wp_region_held_drew (S := fun w' => w' = wo.drew) (by kernel_rfl) rfl (fun hHeld => ?_)
          refine wpAnyH_take (i := 0) (v := .pointer (some ⟨w.heap.size, 1, none⟩)) rfl (by kernel_rfl) (by kernel_rfl) (by kernel_rfl) (fun _ _ _ h => h) (Or.inl ⟨by rfl, ?_⟩) hHeld ?_
          · intro w' hSw; subst hSw; go_simp <;> omega
          try simp only [Act.put, List.getElem_toArray, List.getElem_cons_succ, List.getElem_cons_zero, List.setIfInBounds_toArray, List.set_cons_zero, List.set_cons_succ]
          refine wpAnyH_take (i := 1) (v := .slice (some ⟨b4, o4, none⟩) l.length cv2) rfl (by kernel_rfl) (by kernel_rfl) (by kernel_rfl) (fun _ _ _ h => h) (Or.inl ⟨by rfl, ?_⟩) hHeld ?_
          · intro w' hSw; subst hSw; have kx := d1; go_simp
          try simp only [Act.put, List.getElem_toArray, List.getElem_cons_succ, List.getElem_cons_zero, List.setIfInBounds_toArray, List.set_cons_zero, List.set_cons_succ]
          refine wpAnyH_take (i := 2) (v := .int .i64 ((k : Int))) rfl (by kernel_rfl) (by kernel_rfl) (by kernel_rfl) (fun _ _ _ h => h) (Or.inl ⟨by rfl, ?_⟩) hHeld ?_
          · intro w' hSw; subst hSw; go_simp <;> omega
          try simp only [Act.put, List.getElem_toArray, List.getElem_cons_succ, List.getElem_cons_zero, List.setIfInBounds_toArray, List.set_cons_zero, List.set_cons_succ]
          refine wpAnyH_take (i := 3) (v := .pointer (some ⟨b4, o4 + k, none⟩)) rfl (by kernel_rfl) (by kernel_rfl) (by kernel_rfl) (fun _ _ _ h => h) (Or.inl ⟨by rfl, ?_⟩) hHeld ?_
          · intro w' hSw; subst hSw; go_simp <;> omega
          try simp only [Act.put, List.getElem_toArray, List.getElem_cons_succ, List.getElem_cons_zero, List.setIfInBounds_toArray, List.set_cons_zero, List.set_cons_succ]
          refine wpAnyH_take (i := 4) (v := .slice p2 xb.length c2) rfl (by kernel_rfl) (by kernel_rfl) (by kernel_rfl) (fun _ _ _ h => h) (Or.inl ⟨by rfl, ?_⟩) hHeld ?_
          · intro w' hSw; subst hSw; have kx := G2.out _ (Below.refl _ _); go_simp
          try simp only [Act.put, List.getElem_toArray, List.getElem_cons_succ, List.getElem_cons_zero, List.setIfInBounds_toArray, List.set_cons_zero, List.set_cons_succ]
          refine wpAnyH_take (i := 5) (v := .int .i64 ((xb.length : Int))) rfl (by kernel_rfl) (by kernel_rfl) (by kernel_rfl) (fun _ _ _ h => h) (Or.inl ⟨by rfl, ?_⟩) hHeld ?_
          · intro w' hSw; subst hSw; go_simp <;> omega
          try simp only [Act.put, List.getElem_toArray, List.getElem_cons_succ, List.getElem_cons_zero, List.setIfInBounds_toArray, List.set_cons_zero, List.set_cons_succ]
          refine wpAnyH_take (i := 6) (v := .pointer (some ⟨w.heap.size, 0, none⟩)) rfl (by kernel_rfl) (by kernel_rfl) (by kernel_rfl) (fun _ _ _ h => h) (Or.inl ⟨by rfl, ?_⟩) hHeld ?_
          · intro w' hSw; subst hSw; go_simp <;> omega
          try simp only [Act.put, List.getElem_toArray, List.getElem_cons_succ, List.getElem_cons_zero, List.setIfInBounds_toArray, List.set_cons_zero, List.set_cons_succ]
          refine wpAnyH_take (i := 7) (v := .slice ac cols.length cc) rfl (by kernel_rfl) (by kernel_rfl) (by kernel_rfl) (fun _ _ _ h => h) (Or.inl ⟨by rfl, ?_⟩) hHeld ?_
          · intro w' hSw; subst hSw; have kx := d0; go_simp
          try simp only [Act.put, List.getElem_toArray, List.getElem_cons_succ, List.getElem_cons_zero, List.setIfInBounds_toArray, List.set_cons_zero, List.set_cons_succ]
          refine wpAnyH_take (i := 8) (v := .int .i64 ((cols.length : Int))) rfl (by kernel_rfl) (by kernel_rfl) (by kernel_rfl) (fun _ _ _ h => h) (Or.inl ⟨by rfl, ?_⟩) hHeld ?_
          · intro w' hSw; subst hSw; go_simp <;> omega
          try simp only [Act.put, List.getElem_toArray, List.getElem_cons_succ, List.getElem_cons_zero, List.setIfInBounds_toArray, List.set_cons_zero, List.set_cons_succ]
          refine wpAnyH_take (i := 9) (v := .bool false) rfl (by kernel_rfl) (by kernel_rfl) (by kernel_rfl) (fun _ _ _ h => h) (Or.inl ⟨by rfl, ?_⟩) hHeld ?_
          · intro w' hSw; subst hSw; go_simp <;> omega
          try simp only [Act.put, List.getElem_toArray, List.getElem_cons_succ, List.getElem_cons_zero, List.setIfInBounds_toArray, List.set_cons_zero, List.set_cons_succ]
          refine wpAnyH_done (by kernel_rfl) ?_ _
          clear hHeld
          go_upto_region 10 with fail
          have hS0 : Below wo.heap.size wo wo.drew.drew := (Below.refl _ _).drew.drew
          refine wp_region_held_drew (S := fun w' => Below wo.heap.size wo w') (by kernel_rfl) hS0 (fun hHeld => ?_)
          refine wpAnyH_take (i := 0) (v := .pointer (some ⟨w.heap.size, 1, none⟩)) rfl (by kernel_rfl) (by kernel_rfl) (by kernel_rfl) (fun _ _ _ h => h) (Or.inl ⟨by rfl, ?_⟩) hHeld ?_
          · intro w' hSw; go_simp
          try simp only [Act.put, List.getElem_toArray, List.getElem_cons_succ, List.getElem_cons_zero, List.setIfInBounds_toArray, List.set_cons_zero, List.set_cons_succ]
          refine wpAnyH_take (i := 1) (v := .slice (some ⟨b4, o4, none⟩) l.length cv2) rfl (by kernel_rfl) (by kernel_rfl) (by kernel_rfl) (fun _ _ _ h => h) (Or.inl ⟨by rfl, ?_⟩) hHeld ?_
          · intro w' hSw; obtain ⟨z0, z1⟩ := (Hbo.out.below hSw (by omega)).cells.c2; simp only [Nat.zero_add] at z1; go_simp
          try simp only [Act.put, List.getElem_toArray, List.getElem_cons_succ, List.getElem_cons_zero, List.setIfInBounds_toArray, List.set_cons_zero, List.set_cons_succ]
          refine wpAnyH_take (i := 2) (v := .int .i64 ((k : Int))) rfl (by kernel_rfl) (by kernel_rfl) (by kernel_rfl) (fun _ _ _ h => h) (Or.inl ⟨by rfl, ?_⟩) hHeld ?_
          · intro w' hSw; go_simp
          try simp only [Act.put, List.getElem_toArray, List.getElem_cons_succ, List.getElem_cons_zero, List.setIfInBounds_toArray, List.set_cons_zero, List.set_cons_succ]
          refine wpAnyH_take (i := 3) (v := .int .i64 ((j : Int))) rfl (by kernel_rfl) (by kernel_rfl) (by kernel_rfl) (fun _ _ _ h => h) (Or.inl ⟨by rfl, ?_⟩) hHeld ?_
          · intro w' hSw; go_simp; exact wrapOk jj0 (by omega)
          try simp only [Act.put, List.getElem_toArray, List.getElem_cons_succ, List.getElem_cons_zero, List.setIfInBounds_toArray, List.set_cons_zero, List.set_cons_succ]
          refine wpAnyH_take (i := 4) (v := .pointer (some ⟨b4, o4 + j, none⟩)) rfl (by kernel_rfl) (by kernel_rfl) (by kernel_rfl) (fun _ _ _ h => h) (Or.inl ⟨by rfl, ?_⟩) hHeld ?_
          · intro w' hSw; go_simp
          try simp only [Act.put, List.getElem_toArray, List.getElem_cons_succ, List.getElem_cons_zero, List.setIfInBounds_toArray, List.set_cons_zero, List.set_cons_succ]
          refine wpAnyH_take (i := 5) (v := .slice p1 xa.length c1') rfl (by kernel_rfl) (by kernel_rfl) (by kernel_rfl) (fun _ _ _ h => h) (Or.inl ⟨by rfl, ?_⟩) hHeld ?_
          · intro w' hSw; have kx := G1.out w' hSw; go_simp
          try simp only [Act.put, List.getElem_toArray, List.getElem_cons_succ, List.getElem_cons_zero, List.setIfInBounds_toArray, List.set_cons_zero, List.set_cons_succ]
          refine wpAnyH_take (i := 6) (v := .pointer (some ⟨w.heap.size, 1, none⟩)) rfl (by kernel_rfl) (by kernel_rfl) (by kernel_rfl) (fun _ _ _ h => h) (Or.inl ⟨by rfl, ?_⟩) hHeld ?_
          · intro w' hSw; go_simp
          try simp only [Act.put, List.getElem_toArray, List.getElem_cons_succ, List.getElem_cons_zero, List.setIfInBounds_toArray, List.set_cons_zero, List.set_cons_succ]
          refine wpAnyH_take (i := 7) (v := .slice (some ⟨b4, o4, none⟩) l.length cv2) rfl (by kernel_rfl) (by kernel_rfl) (by kernel_rfl) (fun _ _ _ h => h) (Or.inl ⟨by rfl, ?_⟩) hHeld ?_
          · intro w' hSw; obtain ⟨z0, z1⟩ := (Hbo.out.below hSw (by omega)).cells.c2; simp only [Nat.zero_add] at z1; go_simp
          try simp only [Act.put, List.getElem_toArray, List.getElem_cons_succ, List.getElem_cons_zero, List.setIfInBounds_toArray, List.set_cons_zero, List.set_cons_succ]
          refine wpAnyH_take (i := 8) (v := .int .i64 ((k : Int))) rfl (by kernel_rfl) (by kernel_rfl) (by kernel_rfl) (fun _ _ _ h => h) (Or.inl ⟨by rfl, ?_⟩) hHeld ?_
          · intro w' hSw; go_simp
          try simp only [Act.put, List.getElem_toArray, List.getElem_cons_succ, List.getElem_cons_zero, List.setIfInBounds_toArray, List.set_cons_zero, List.set_cons_succ]
          refine wpAnyH_take (i := 9) (v := .pointer (some ⟨b4, o4 + k, none⟩)) rfl (by kernel_rfl) (by kernel_rfl) (by kernel_rfl) (fun _ _ _ h => h) (Or.inl ⟨by rfl, ?_⟩) hHeld ?_
          · intro w' hSw; go_simp
          try simp only [Act.put, List.getElem_toArray, List.getElem_cons_succ, List.getElem_cons_zero, List.setIfInBounds_toArray, List.set_cons_zero, List.set_cons_succ]
          refine wpAnyH_take (i := 10) (v := .slice p2 xb.length c2) rfl (by kernel_rfl) (by kernel_rfl) (by kernel_rfl) (fun _ _ _ h => h) (Or.inl ⟨by rfl, ?_⟩) hHeld ?_
          · intro w' hSw; have kx := G2.out w' hSw; go_simp
          try simp only [Act.put, List.getElem_toArray, List.getElem_cons_succ, List.getElem_cons_zero, List.setIfInBounds_toArray, List.set_cons_zero, List.set_cons_succ]
          refine wpAnyH_ready (rs := [11]) (by kernel_rfl) (by simp) ?_
          refine allCall (f := 25) (args := #[.slice p1 xa.length c1', .slice p2 xb.length c2]) rfl (by kernel_rfl) (by kernel_rfl) ?_ AllReadyH.nil
          refine refRowsCompare_any _ _ _ _ xa xb _ _ wo.drew.drew (Sl.below R1.out Row1.loc hHeld (by omega)) (Sl.below R2.out Row1.loc hHeld (by omega)) (by have := hHeld.size; omega) (by have := hHeld.size; omega) M1.out M2.out _ (fun wq1 hB => ?_)
          refine ⟨_, rfl, hHeld.trans (hB.mono hHeld.size), ?_⟩
          have hHeld2 := hHeld.trans (hB.mono hHeld.size)
          clear hHeld
          have hHeld := hHeld2
          clear hHeld2
          clear hB
          try simp only [Act.put, List.getElem_toArray, List.getElem_cons_succ, List.getElem_cons_zero, List.setIfInBounds_toArray, List.set_cons_zero, List.set_cons_succ]
          refine wpAnyH_take (i := 12) (v := .int .i64 (cmpR xa xb)) rfl (by kernel_rfl) (by kernel_rfl) (by kernel_rfl) (fun _ _ _ h => h) (Or.inl ⟨by rfl, ?_⟩) hHeld ?_
          · intro w' hSw; go_simp
          try simp only [Act.put, List.getElem_toArray, List.getElem_cons_succ, List.getElem_cons_zero, List.setIfInBounds_toArray, List.set_cons_zero, List.set_cons_succ]
          have HH2 := Lib.hid hHeld
          refine wpAnyH_done (by kernel_rfl) ?_ _
          clear hHeld
          have HB5 := Lib.hid (HB.out.trans (HH2.out.mono (by omega)))
          have HB5w := Lib.hid (HBw.out.trans (HH2.out.mono hz))
          by_cases hc0 : cmpR xa xb < 0
          · have hnx := Lib.hid (Hnx.out (by rw [Hat.out]; exact decide_eq_true hc0))
            have c5 : ¬ (0 : Int) ≤ cmpR xa xb := by omega
            clear hc0 Hno Hnx
            generalize cmpR xa xb = cv at *
            go_wp2_with fail
            go_roundw
            case rel => exact ⟨k + 1, by omega, by go_num, hnx.out, HB5.out⟩
            case measure => simp [intOf]; omega
          · have hr := HR.out _ HB5w.out
            rw [Hno.out (by rw [Hat.out]; exact decide_eq_false hc0)] at hr
            have c5 : (0 : Int) ≤ cmpR xa xb := by omega
            clear hc0 Hno Hnx
            generalize cmpR xa xb = cv at *
            go_wp2_with fail
            first | exact hr | exact fin hr rfl
      · have hr := HR.out wo.drew HBw.out.drew
        rw [mayRel_no hlt (by unfold mayAt; rw [getDS l _ k hlt]; simp [hne])] at hr
        have c3 : ((l[k].length : Int) != (cols.length : Int)) = true := by simp; omega
        clear hrow4 g2 r2 hne
        generalize l[k] = xb at *
        go_upto_region 7 with fail
        refine wp_region_held_drew (S := fun w' => w' = wo.drew) (by kernel_rfl) rfl (fun hHeld => ?_)
        refine wpAnyH_take (i := 0) (v := .pointer (some ⟨w.heap.size, 1, none⟩)) rfl (by kernel_rfl) (by kernel_rfl) (by kernel_rfl) (fun _ _ _ h => h) (Or.inl ⟨by rfl, ?_⟩) hHeld ?_
        · intro w' hSw; subst hSw; go_simp <;> omega
        try simp only [Act.put, List.getElem_toArray, List.getElem_cons_succ, List.getElem_cons_zero, List.setIfInBounds_toArray, List.set_cons_zero, List.set_cons_succ]
        refine wpAnyH_take (i := 1) (v := .slice (some ⟨b4, o4, none⟩) l.length cv2) rfl (by kernel_rfl) (by kernel_rfl) (by kernel_rfl) (fun _ _ _ h => h) (Or.inl ⟨by rfl, ?_⟩) hHeld ?_
        · intro w' hSw; subst hSw; have kx := d1; go_simp
        try simp only [Act.put, List.getElem_toArray, List.getElem_cons_succ, List.getElem_cons_zero, List.setIfInBounds_toArray, List.set_cons_zero, List.set_cons_succ]
        refine wpAnyH_take (i := 2) (v := .int .i64 ((k : Int))) rfl (by kernel_rfl) (by kernel_rfl) (by kernel_rfl) (fun _ _ _ h => h) (Or.inl ⟨by rfl, ?_⟩) hHeld ?_
        · intro w' hSw; subst hSw; go_simp <;> omega
        try simp only [Act.put, List.getElem_toArray, List.getElem_cons_succ, List.getElem_cons_zero, List.setIfInBounds_toArray, List.set_cons_zero, List.set_cons_succ]
        refine wpAnyH_take (i := 3) (v := .pointer (some ⟨b4, o4 + k, none⟩)) rfl (by kernel_rfl) (by kernel_rfl) (by kernel_rfl) (fun _ _ _ h => h) (Or.inl ⟨by rfl, ?_⟩) hHeld ?_
        · intro w' hSw; subst hSw; go_simp <;> omega
        try simp only [Act.put, List.getElem_toArray, List.getElem_cons_succ, List.getElem_cons_zero, List.setIfInBounds_toArray, List.set_cons_zero, List.set_cons_succ]
        refine wpAnyH_take (i := 4) (v := .slice p2 xb.length c2) rfl (by kernel_rfl) (by kernel_rfl) (by kernel_rfl) (fun _ _ _ h => h) (Or.inl ⟨by rfl, ?_⟩) hHeld ?_
        · intro w' hSw; subst hSw; have kx := G2.out _ (Below.refl _ _); go_simp
        try simp only [Act.put, List.getElem_toArray, List.getElem_cons_succ, List.getElem_cons_zero, List.setIfInBounds_toArray, List.set_cons_zero, List.set_cons_succ]
        refine wpAnyH_take (i := 5) (v := .int .i64 ((xb.length : Int))) rfl (by kernel_rfl) (by kernel_rfl) (by kernel_rfl) (fun _ _ _ h => h) (Or.inl ⟨by rfl, ?_⟩) hHeld ?_
        · intro w' hSw; subst hSw; go_simp <;> omega
        try simp only [Act.put, List.getElem_toArray, List.getElem_cons_succ, List.getElem_cons_zero, List.setIfInBounds_toArray, List.set_cons_zero, List.set_cons_succ]
        refine wpAnyH_take (i := 6) (v := .pointer (some ⟨w.heap.size, 0, none⟩)) rfl (by kernel_rfl) (by kernel_rfl) (by kernel_rfl) (fun _ _ _ h => h) (Or.inl ⟨by rfl, ?_⟩) hHeld ?_
        · intro w' hSw; subst hSw; go_simp <;> omega
        try simp only [Act.put, List.getElem_toArray, List.getElem_cons_succ, List.getElem_cons_zero, List.setIfInBounds_toArray, List.set_cons_zero, List.set_cons_succ]
        refine wpAnyH_take (i := 7) (v := .slice ac cols.length cc) rfl (by kernel_rfl) (by kernel_rfl) (by kernel_rfl) (fun _ _ _ h => h) (Or.inl ⟨by rfl, ?_⟩) hHeld ?_
        · intro w' hSw; subst hSw; have kx := d0; go_simp
        try simp only [Act.put, List.getElem_toArray, List.getElem_cons_succ, List.getElem_cons_zero, List.setIfInBounds_toArray, List.set_cons_zero, List.set_cons_succ]
        refine wpAnyH_take (i := 8) (v := .int .i64 ((cols.length : Int))) rfl (by kernel_rfl) (by kernel_rfl) (by kernel_rfl) (fun _ _ _ h => h) (Or.inl ⟨by rfl, ?_⟩) hHeld ?_
        · intro w' hSw; subst hSw; go_simp <;> omega
        try simp only [Act.put, List.getElem_toArray, List.getElem_cons_succ, List.getElem_cons_zero, List.setIfInBounds_toArray, List.set_cons_zero, List.set_cons_succ]
        refine wpAnyH_take (i := 9) (v := .bool true) rfl (by kernel_rfl) (by kernel_rfl) (by kernel_rfl) (fun _ _ _ h => h) (Or.inl ⟨by rfl, ?_⟩) hHeld ?_
        · intro w' hSw; subst hSw; go_simp <;> omega
        try simp only [Act.put, List.getElem_toArray, List.getElem_cons_succ, List.getElem_cons_zero, List.setIfInBounds_toArray, List.set_cons_zero, List.set_cons_succ]
        refine wpAnyH_done (by kernel_rfl) ?_ _
        clear hHeld
        go_wp2_with fail
        first | exact hr | exact fin hr rfl
    · have llt : ¬ (k : Int) < (l.length : Int) := by omega
      have hr := HR.out wo HBw.out
      rw [mayRel_yes Ho.out (by omega) (fun i hi => Hok.out i (by omega))] at hr
      go_wp2_with fail
      first | exact hr | exact fin hr rfl
end Go.Proofs.Ytpncblagjkbemaa
end
