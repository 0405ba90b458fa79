/- The iterator over the parts of bytes. -/
import Derived.Test.YtomclldnoockcaaReadVal
import Derived.Test.YtomclldnoockcaaRange
namespace Go.Proofs.Ytomclldnoockcaa
open Go.RowKit Go.Shelf
set_option linter.unusedVariables false
set_option linter.unusedSimpArgs false
attribute [local go_sem] Oper.semAt_some

def bo (b : Bool) : List Value := [.bool b]
abbrev Bools := Sl (flat bo) 1
theorem oneV_length : ∀ (b : List UInt8) (v : V) (r : List UInt8), oneV b = some (v, r) → r.length ≤ b.length := by
  intro b v r h
  cases b with
  | nil => simp [oneV] at h
  | cons k t =>
    have hc : ∀ (x : V) (y : List UInt8), chkV x y = some (v, r) → r = y := fun x y h => by
      unfold chkV at h
      split at h
      · simp at h; exact h.2.symm
      · cases h
    simp only [oneV] at h
    split at h
    · cases t with
      | nil => simp at h
      | cons c t => have := hc _ _ h; subst this; simp; omega
    · split at h
      · split at h
        · cases h
        · have := hc _ _ h; have := (txt_length t).1; subst r; simp; omega
      · split at h
        · cases h
        · have := hc _ _ h; subst this; simp; omega

theorem p_facts {wr w5 : World} {rb : Nat} {x0 x1 x2 x3 x4 : Value} {t : TypeId} (ho : Only (· = rb) wr w5) (hx : Blk w5 wr.heap.size [x0, x1, x2, x3, x4] t) (c0 c1 c2 c3 c4 : Value) :
    Only (· = rb) wr (((((w5.setCell ⟨wr.heap.size, 0, none⟩ c0).setCell ⟨wr.heap.size, 1, none⟩ c1).setCell ⟨wr.heap.size, 2, none⟩ c2).setCell ⟨wr.heap.size, 3, none⟩ c3).setCell ⟨wr.heap.size, 4, none⟩ c4) ∧
    Below wr.heap.size w5 (((((w5.setCell ⟨wr.heap.size, 0, none⟩ c0).setCell ⟨wr.heap.size, 1, none⟩ c1).setCell ⟨wr.heap.size, 2, none⟩ c2).setCell ⟨wr.heap.size, 3, none⟩ c3).setCell ⟨wr.heap.size, 4, none⟩ c4) ∧
    Blk (((((w5.setCell ⟨wr.heap.size, 0, none⟩ c0).setCell ⟨wr.heap.size, 1, none⟩ c1).setCell ⟨wr.heap.size, 2, none⟩ c2).setCell ⟨wr.heap.size, 3, none⟩ c3).setCell ⟨wr.heap.size, 4, none⟩ c4) wr.heap.size [c0, c1, c2, c3, c4] t := by
  have hB : Below wr.heap.size w5 (((((w5.setCell ⟨wr.heap.size, 0, none⟩ c0).setCell ⟨wr.heap.size, 1, none⟩ c1).setCell ⟨wr.heap.size, 2, none⟩ c2).setCell ⟨wr.heap.size, 3, none⟩ c3).setCell ⟨wr.heap.size, 4, none⟩ c4) :=
    (((((Below.refl _ _).setCell (p := ⟨wr.heap.size, 0, none⟩) (Nat.le_refl _) c0).setCell (p := ⟨wr.heap.size, 1, none⟩) (Nat.le_refl _) c1).setCell (p := ⟨wr.heap.size, 2, none⟩) (Nat.le_refl _) c2).setCell (p := ⟨wr.heap.size, 3, none⟩) (Nat.le_refl _) c3).setCell (p := ⟨wr.heap.size, 4, none⟩) (Nat.le_refl _) c4
  exact ⟨ho.step hB, hB, ((((hx.set 0 c0).set 1 c1).set 2 c2).set 3 c3).set 4 c4⟩
theorem readK_some {ks : List Bool} {r r' : List UInt8} {v : V} (h : oneV r = some (v, r')) : readK (true :: ks) r = (readK ks r').map (⟨true, 0, v⟩ :: ·) := by simp [readK, h]
theorem readK_none {ks : List Bool} {r : List UInt8} (h : oneV r = none) : readK (true :: ks) r = none := by simp [readK, h]
theorem readK_num {ks : List Bool} {r : List UInt8} (h : 8 ≤ r.length) : readK (false :: ks) r = (readK ks (r.drop 8)).map (⟨false, numI (r.take 8), ⟨0, 0, []⟩⟩ :: ·) := by simp only [readK]; rw [if_neg (by omega)]
theorem readK_short {ks : List Bool} {r : List UInt8} (h : r.length < 8) : readK (false :: ks) r = none := by simp only [readK]; rw [if_pos h]
theorem map_snoc (o : Option (List Pt)) (out : List Pt) (x : Pt) : (o.map (x :: ·)).map (out ++ ·) = o.map ((out ++ [x]) ++ ·) := by cases o <;> simp

set_option maxRecDepth 100000 in
set_option maxHeartbeats 8000000 in
theorem parts1_any (rb hi n1 kb pb ob l m : Nat) (kinds : List Bool) (kv : Value) (rest : List UInt8) (J : List Pt → World → Prop)
    (hJ : ∀ out W W', J out W → Only (· = rb) W W' → J out W') (hJ2 : ∀ out W, J out W → n1 ≤ W.heap.size)
    (hY : ∀ out x W, J out W → out.length < kinds.length → YieldAt Fence.wide m Try.prog l #[.agg (Pt.enc x).toArray] W (fun e W' => e = .returned (.bool true) ∧ J (out ++ [x]) W' ∧ Only (fun k => k = ob ∨ n1 ≤ k) W W'))
    (hrb : hi ≤ rb) (hob : hi ≤ ob) (hn1 : hi ≤ n1) (h1 : rb < n1) (h2 : kb < n1) (h3 : pb < n1) (h4 : ob ≠ rb) (h5 : ob ≠ kb) (h6 : ob ≠ pb) (h7 : rb ≠ kb) (h8 : rb ≠ pb)
    (W0 : World) (hJ0 : J [] W0) (hrd : RdAt rb hi W0 rest false) (hk : W0.cell? ⟨kb, 0, none⟩ = some kv) (hp : W0.cell? ⟨pb, 0, none⟩ = some (.pointer (some ⟨rb, 0, none⟩))) (hkk : Bools 0 hi W0 kv kinds) (hlen : rest.length ≤ 100000000) (hkl : kinds.length ≤ 100000000) :
    CallsIn Fence.wide (m + 1) Try.prog 42 #[.func (.yield l) #[] #[], .pointer (some ⟨kb, 0, none⟩), .pointer (some ⟨pb, 0, none⟩)] W0 (fun e W' => (∃ v, e = .returned v) ∧
      ∃ out r bad, J out W' ∧ RdAt rb hi W' r bad ∧ (bad = false ∧ readK kinds rest = (if r.isEmpty then some out else none) ∨ bad = true ∧ readK kinds rest = none)) := by
  have hs0 := hJ2 _ _ hJ0
  have HJ := Lib.hid hJ
  have HJ2 := Lib.hid hJ2
  have HY := Lib.hid hY
  have Hrd := Lib.hid hrd
  have Hkk := Lib.hid hkk
  obtain ⟨ao, cap, rfl, q1, q2, -, hc⟩ := hkk.form
  have Hc := Lib.hid hc
  clear hJ hJ2 hY hrd hkk hc
  refine callsIn_of_wp Try.func42 rfl trivial ?_ rfl
  simp only [Try.ntmps42, List.size_toArray, List.length_cons, Nat.reduceAdd, Nat.reduceSub, Array.replicate_succ, Array.replicate_zero, List.push_toArray, List.append_toArray, List.nil_append, List.cons_append, List.length_nil]
  gi_wp2
  gi_loopw [9] (fun t9 wr => ∃ (k : Nat) (out : List Pt) (r : List UInt8), k ≤ kinds.length ∧ t9 = .int .i64 k ∧ J out wr ∧ RdAt rb hi wr r false ∧ Only (fun k => k = rb ∨ k = ob ∨ n1 ≤ k) W0 wr ∧ r.length ≤ rest.length ∧ readK kinds rest = (readK (kinds.drop k) r).map (out ++ ·) ∧ out.length = k)
    (fun t9 _ => kinds.length - (intOf t9).toNat)
  case atStart => exact ⟨0, [], rest, Nat.zero_le _, rfl, hJ0, Hrd.out, Only.refl _ _, Nat.le_refl _, by simp, rfl⟩
  case round =>
    obtain ⟨k, out, r, hkle, rfl, hj, hrd, ho, hrl, hread, holen⟩ := hrel
    have Holen := Lib.hid holen
    clear holen
    have hsz := ho.size
    have hn1w := HJ2.out _ _ hj
    have hp1 : wr.cell? ⟨pb, 0, none⟩ = some (.pointer (some ⟨rb, 0, none⟩)) := by rw [World.cell?_of_block (ho.block pb (by omega) (by omega))]; exact hp
    have Hj := Lib.hid hj
    have Hrd1 := Lib.hid hrd
    have Hread := Lib.hid hread
    by_cases hlt : k < kinds.length
    · obtain ⟨b, off, rfl, hb1, hb2, hcc⟩ := Hc.out k hlt
      obtain ⟨cs, -, hcs, e⟩ := hcc k hlt
      subst e
      have g0 := (hcs.agree (ho.agree (lo := 0) (hi := hi) (by omega) (fun k hk => .inr (by omega))) (Nat.zero_le _) hb2).c1
      rw [Nat.mul_one] at g0
      have Hdk := Lib.hid (List.drop_eq_getElem_cons hlt)
      have hB0 : Below wr.heap.size wr (wr.alloc (.cells #[.bool false, .int .i64 0, .int .i64 0, .int .i64 0, .string ⟨#[]⟩] 39)) := (Below.refl _ _).alloc (Nat.le_refl _) _
      have hpx : Blk (wr.alloc (.cells #[.bool false, .int .i64 0, .int .i64 0, .int .i64 0, .string ⟨#[]⟩] 39)) wr.heap.size [.bool false, .int .i64 0, .int .i64 0, .int .i64 0, .string ⟨#[]⟩] 39 := Blk.new _ _ _ rfl
      have Hpx := Lib.hid hpx
      have hrbw : rb < wr.heap.size := by omega
      have Hrd2 := Lib.hid (hrd.below hB0 (by omega) hrbw)
      have Hj2 := Lib.hid (HJ.out _ _ _ hj (Below.only hB0))
      have hpb2 : (wr.alloc (.cells #[.bool false, .int .i64 0, .int .i64 0, .int .i64 0, .string ⟨#[]⟩] 39)).cell? ⟨pb, 0, none⟩ = some (.pointer (some ⟨rb, 0, none⟩)) := by rw [World.cell?_of_block (hB0.block pb (by omega))]; exact hp1
      have ho1 : Only (fun k => k = rb ∨ k = ob ∨ n1 ≤ k) W0 (wr.alloc (.cells #[.bool false, .int .i64 0, .int .i64 0, .int .i64 0, .string ⟨#[]⟩] 39)) := ho.trans (Below.only hB0)
      clear hcs hcc hj hrd hread hpx
      have hrl2 : r.length ≤ 100000000 := by omega
      cases hkd : kinds[k] with
      | true =>
        have hdk2 := Hdk.out
        rw [hkd] at hdk2 g0
        have Hdk2 := Lib.hid hdk2
        clear hkd hdk2 Hdk
        gi_wp2_with fail
        refine ⟨trivial, callsIn_wide.2 (rvalue_any rb hi r _ Hrd2.out hrb (by rw [World.size_alloc]; omega) hrl2 _ (fun v r' hone w5 ho5 hr5 => ?_) (fun hone w5 v r' ho5 hr5 => ?_))⟩
        · have hsz5 := ho5.size
          rw [World.size_alloc] at hsz5
          have hpb5 : w5.cell? ⟨pb, 0, none⟩ = some (.pointer (some ⟨rb, 0, none⟩)) := by rw [World.cell?_of_block (ho5.block pb (by rw [World.size_alloc]; omega) (by omega))]; exact hpb2
          have hx5 := ho5.blk Hpx.out (by omega)
          obtain ⟨t1, t2, t3⟩ := p_facts ((Only.alloc wr _).trans ho5) hx5 (.bool true) (.int .i64 0) (.int .i64 v.kind) (.int .i64 v.n) (.string ⟨v.s.toArray⟩)
          have Hj6 := Lib.hid (HJ.out _ _ _ Hj.out t1)
          have Ho6 := Lib.hid (ho.trans (t1.mono (fun k _ e => .inl e)))
          have hrd6 := hr5.below t2 (by omega) hrbw
          clear hrd6
          have Hrd6 := Lib.hid (hr5.below t2 (by omega) hrbw)
          have hsz6 := t1.size
          have f0 := hx5.free 0
          have f1 := hx5.free 1
          have f2 := hx5.free 2
          have f3 := hx5.free 3
          have f4 := hx5.free 4
          obtain ⟨s0, s1, s2, s3, s4⟩ := hx5.cells.c5
          simp only [Nat.zero_add] at s1 s2 s3 s4
          have hxl := hx5.lt
          have hne : rb ≠ wr.heap.size := by omega
          have hne2 : pb ≠ wr.heap.size := by omega
          have q15 : w5.cell? ⟨rb, 1, none⟩ = some (.bool false) := by
            obtain ⟨svy, hrby, -⟩ := hr5
            have := hrby.cells.c2.2
            simpa using this
          obtain ⟨yf, yt, ya, yb, hy, hR⟩ := HY.out out ⟨true, 0, v⟩ _ Hj6.out (by rw [Holen.out]; exact hlt)
          dsimp only [Pt.enc] at hy
          clear hx5 hr5 t1 t2 t3
          gi_wp2_with fail
          refine hR.mono ?_
          rintro e W3 ⟨rfl, hj3, ho3⟩
          have Hj3 := Lib.hid hj3
          have Hrd3 := Lib.hid (Hrd6.out.only ho3 (by omega) (fun k hk => by omega) (by omega))
          have Ho3 := Lib.hid (Ho6.out.trans (ho3.mono (fun k _ e => .inr e)))
          have hr3 := Hread.out
          rw [Hdk2.out, readK_some hone, map_snoc] at hr3
          have Hr3 := Lib.hid hr3
          clear hj3 ho3 hr3 hy
          gi_wp2_with fail
          go_roundw
          case rel => exact ⟨k + 1, out ++ [⟨true, 0, v⟩], r', by omega, by go_num, Hj3.out, Hrd3.out, Ho3.out, Nat.le_trans (oneV_length _ _ _ hone) hrl, Hr3.out, by rw [List.length_append, Holen.out]; rfl⟩
          case measure => simp [intOf]; omega
        · have hsz5 := ho5.size
          rw [World.size_alloc] at hsz5
          have hpb5 : w5.cell? ⟨pb, 0, none⟩ = some (.pointer (some ⟨rb, 0, none⟩)) := by rw [World.cell?_of_block (ho5.block pb (by rw [World.size_alloc]; omega) (by omega))]; exact hpb2
          have hx5 := ho5.blk Hpx.out (by omega)
          obtain ⟨t1, t2, t3⟩ := p_facts ((Only.alloc wr _).trans ho5) hx5 (.bool true) (.int .i64 0) (.int .i64 v.kind) (.int .i64 v.n) (.string ⟨v.s.toArray⟩)
          have Hj6 := Lib.hid (HJ.out _ _ _ Hj.out t1)
          have Ho6 := Lib.hid (ho.trans (t1.mono (fun k _ e => .inl e)))
          have hrd6 := hr5.below t2 (by omega) hrbw
          clear hrd6
          have Hrd6 := Lib.hid (hr5.below t2 (by omega) hrbw)
          have hsz6 := t1.size
          have f0 := hx5.free 0
          have f1 := hx5.free 1
          have f2 := hx5.free 2
          have f3 := hx5.free 3
          have f4 := hx5.free 4
          obtain ⟨s0, s1, s2, s3, s4⟩ := hx5.cells.c5
          simp only [Nat.zero_add] at s1 s2 s3 s4
          have hxl := hx5.lt
          have hne : rb ≠ wr.heap.size := by omega
          have hne2 : pb ≠ wr.heap.size := by omega
          have q15 : w5.cell? ⟨rb, 1, none⟩ = some (.bool true) := by
            obtain ⟨svy, hrby, -⟩ := hr5
            have := hrby.cells.c2.2
            simpa using this
          clear hx5 hr5 t1 t2 t3
          have hr3 := Hread.out
          rw [Hdk2.out, readK_none hone] at hr3
          have Hr3 := Lib.hid hr3
          clear hr3
          gi_wp2_with fail
          refine ⟨fun _ h => (by cases h), ?_⟩
          gi_wp2_with fail
          refine bodyPost_ret (results_none rfl _ _ _) rfl ?_
          exact ⟨⟨_, rfl⟩, out, _, true, Hj6.out, Hrd6.out, .inr ⟨rfl, Hr3.out⟩⟩
      | false =>
        have hdk2 := Hdk.out
        rw [hkd] at hdk2 g0
        have Hdk2 := Lib.hid hdk2
        clear hkd hdk2 Hdk
        gi_wp2_with fail
        refine ⟨trivial, callsIn_wide.2 (rnumber_any rb hi r false _ Hrd2.out hrb (by rw [World.size_alloc]; omega) _ (fun _ h8 w5 ho5 hr5 => ?_) (fun h8 w5 x ho5 hr5 => ?_))⟩
        · have hsz5 := ho5.size
          rw [World.size_alloc] at hsz5
          have hpb5 : w5.cell? ⟨pb, 0, none⟩ = some (.pointer (some ⟨rb, 0, none⟩)) := by rw [World.cell?_of_block (ho5.block pb (by rw [World.size_alloc]; omega) (by omega))]; exact hpb2
          have hx5 := ho5.blk Hpx.out (by omega)
          obtain ⟨t1, t2, t3⟩ := p_facts ((Only.alloc wr _).trans ho5) hx5 (.bool false) (.int .i64 (numI (r.take 8))) (.int .i64 0) (.int .i64 0) (.string ⟨#[]⟩)
          have Hj6 := Lib.hid (HJ.out _ _ _ Hj.out t1)
          have Ho6 := Lib.hid (ho.trans (t1.mono (fun k _ e => .inl e)))
          have hrd6 := hr5.below t2 (by omega) hrbw
          clear hrd6
          have Hrd6 := Lib.hid (hr5.below t2 (by omega) hrbw)
          have hsz6 := t1.size
          have f0 := hx5.free 0
          have f1 := hx5.free 1
          have f2 := hx5.free 2
          have f3 := hx5.free 3
          have f4 := hx5.free 4
          obtain ⟨s0, s1, s2, s3, s4⟩ := hx5.cells.c5
          simp only [Nat.zero_add] at s1 s2 s3 s4
          have hxl := hx5.lt
          have hne : rb ≠ wr.heap.size := by omega
          have hne2 : pb ≠ wr.heap.size := by omega
          have q15 : w5.cell? ⟨rb, 1, none⟩ = some (.bool false) := by
            obtain ⟨svy, hrby, -⟩ := hr5
            have := hrby.cells.c2.2
            simpa using this
          obtain ⟨yf, yt, ya, yb, hy, hR⟩ := HY.out out ⟨false, numI (r.take 8), ⟨0, 0, []⟩⟩ _ Hj6.out (by rw [Holen.out]; exact hlt)
          dsimp only [Pt.enc] at hy
          clear hx5 hr5 t1 t2 t3
          gi_wp2_with fail
          refine hR.mono ?_
          rintro e W3 ⟨rfl, hj3, ho3⟩
          have Hj3 := Lib.hid hj3
          have Hrd3 := Lib.hid (Hrd6.out.only ho3 (by omega) (fun k hk => by omega) (by omega))
          have Ho3 := Lib.hid (Ho6.out.trans (ho3.mono (fun k _ e => .inr e)))
          have hr3 := Hread.out
          rw [Hdk2.out, readK_num h8, map_snoc] at hr3
          have Hr3 := Lib.hid hr3
          clear hj3 ho3 hr3 hy
          gi_wp2_with fail
          go_roundw
          case rel => exact ⟨k + 1, out ++ [⟨false, numI (r.take 8), ⟨0, 0, []⟩⟩], r.drop 8, by omega, by go_num, Hj3.out, Hrd3.out, Ho3.out, by rw [List.length_drop]; omega, Hr3.out, by rw [List.length_append, Holen.out]; rfl⟩
          case measure => simp [intOf]; omega
        · have hsz5 := ho5.size
          rw [World.size_alloc] at hsz5
          have hpb5 : w5.cell? ⟨pb, 0, none⟩ = some (.pointer (some ⟨rb, 0, none⟩)) := by rw [World.cell?_of_block (ho5.block pb (by rw [World.size_alloc]; omega) (by omega))]; exact hpb2
          have hx5 := ho5.blk Hpx.out (by omega)
          obtain ⟨t1, t2, t3⟩ := p_facts ((Only.alloc wr _).trans ho5) hx5 (.bool false) (.int .i64 x) (.int .i64 0) (.int .i64 0) (.string ⟨#[]⟩)
          have Hj6 := Lib.hid (HJ.out _ _ _ Hj.out t1)
          have Ho6 := Lib.hid (ho.trans (t1.mono (fun k _ e => .inl e)))
          have hrd6 := hr5.below t2 (by omega) hrbw
          clear hrd6
          have Hrd6 := Lib.hid (hr5.below t2 (by omega) hrbw)
          have hsz6 := t1.size
          have f0 := hx5.free 0
          have f1 := hx5.free 1
          have f2 := hx5.free 2
          have f3 := hx5.free 3
          have f4 := hx5.free 4
          obtain ⟨s0, s1, s2, s3, s4⟩ := hx5.cells.c5
          simp only [Nat.zero_add] at s1 s2 s3 s4
          have hxl := hx5.lt
          have hne : rb ≠ wr.heap.size := by omega
          have hne2 : pb ≠ wr.heap.size := by omega
          have q15 : w5.cell? ⟨rb, 1, none⟩ = some (.bool true) := by
            obtain ⟨svy, hrby, -⟩ := hr5
            have := hrby.cells.c2.2
            simpa using this
          clear hx5 hr5 t1 t2 t3
          have hr3 := Hread.out
          rw [Hdk2.out, readK_short (by rcases h8 with h | h; cases h; exact h)] at hr3
          have Hr3 := Lib.hid hr3
          clear hr3
          gi_wp2_with fail
          refine ⟨fun _ h => (by cases h), ?_⟩
          gi_wp2_with fail
          refine bodyPost_ret (results_none rfl _ _ _) rfl ?_
          exact ⟨⟨_, rfl⟩, out, _, true, Hj6.out, Hrd6.out, .inr ⟨rfl, Hr3.out⟩⟩
    · have hk2 : k = kinds.length := by omega
      have hr0 := Hread.out
      rw [hk2, List.drop_eq_nil_of_le (Nat.le_refl _)] at hr0
      have Hr0 := Lib.hid hr0
      gi_wp2_with fail
      go_end0
      refine ⟨⟨_, rfl⟩, out, r, false, Hj.out, Hrd1.out, .inl ⟨rfl, ?_⟩⟩
      rw [Hr0.out]
      simp only [readK]
      split <;> simp
end Go.Proofs.Ytomclldnoockcaa
