/- The document's built-in attributes. (Printed by schj.py.) -/
import Derived.Test.YtkcpanaojehgiaaSchI
namespace Go.Proofs.Ytkcpanaojehgiaa
open Go.RowKit
set_option linter.unusedVariables false
set_option linter.unusedSimpArgs false

def nmL : List (List UInt8) := [[110, 97, 109, 101], [116, 121, 112, 101], [109, 97, 110, 121], [117, 110, 105, 113, 117, 101], [112, 97, 114, 116], [105, 110, 100, 101, 120], [100, 111, 99]]
def tyL : List Int := [7, 1, 2, 1, 2, 2, 3]
theorem builtin_at (k : Nat) (hk : k < 7) : builtinL.getD k zeroA = ⟨(k : Int) + 1, [100, 98, 47] ++ nmL.getD k [], tyL.getD k 0, false, if k = 0 then 2 else 0, false, false⟩ := by
  rcases k with _ | _ | _ | _ | _ | _ | _ | k <;> first | rfl | omega
theorem builtin_take (k : Nat) (hk : k < 7) : builtinL.take (k + 1) = builtinL.take k ++ [⟨(k : Int) + 1, [100, 98, 47] ++ nmL.getD k [], tyL.getD k 0, false, if k = 0 then 2 else 0, false, false⟩] := by
  rw [← builtin_at k hk, List.take_succ_eq_append_getElem (show k < builtinL.length from hk), getD_at builtinL zeroA k hk]
  rfl
theorem cat3 (s : List UInt8) : (⟨#[100, 98, 47]⟩ : ByteArray) ++ ⟨s.toArray⟩ = ⟨([100, 98, 47] ++ s).toArray⟩ := by
  apply ByteArray.ext
  simp
set_option maxRecDepth 100000 in
set_option maxHeartbeats 8000000 in
theorem refBuiltin_any (w : World) (R : Ending → World → Prop) (hR : ∀ w' v', Below w.heap.size w w' → OwnA w.heap.size w' v' builtinL → R (.returned v') w') : Calls Try.prog 16 #[] w R := by
  have HR := Lib.hid hR
  clear hR
  have hBa := alloc_below w (.cells #[.string ⟨#[110, 97, 109, 101]⟩, .string ⟨#[116, 121, 112, 101]⟩, .string ⟨#[109, 97, 110, 121]⟩, .string ⟨#[117, 110, 105, 113, 117, 101]⟩, .string ⟨#[112, 97, 114, 116]⟩, .string ⟨#[105, 110, 100, 101, 120]⟩, .string ⟨#[100, 111, 99]⟩] 9)
  have hna := Blk.new w [.string ⟨#[110, 97, 109, 101]⟩, .string ⟨#[116, 121, 112, 101]⟩, .string ⟨#[109, 97, 110, 121]⟩, .string ⟨#[117, 110, 105, 113, 117, 101]⟩, .string ⟨#[112, 97, 114, 116]⟩, .string ⟨#[105, 110, 100, 101, 120]⟩, .string ⟨#[100, 111, 99]⟩] 9 rfl
  have hsz : (w.alloc (.cells #[.string ⟨#[110, 97, 109, 101]⟩, .string ⟨#[116, 121, 112, 101]⟩, .string ⟨#[109, 97, 110, 121]⟩, .string ⟨#[117, 110, 105, 113, 117, 101]⟩, .string ⟨#[112, 97, 114, 116]⟩, .string ⟨#[105, 110, 100, 101, 120]⟩, .string ⟨#[100, 111, 99]⟩] 9)).heap.size = w.heap.size + 1 := by simp
  have hBb := alloc_below (w.alloc (.cells #[.string ⟨#[110, 97, 109, 101]⟩, .string ⟨#[116, 121, 112, 101]⟩, .string ⟨#[109, 97, 110, 121]⟩, .string ⟨#[117, 110, 105, 113, 117, 101]⟩, .string ⟨#[112, 97, 114, 116]⟩, .string ⟨#[105, 110, 100, 101, 120]⟩, .string ⟨#[100, 111, 99]⟩] 9)) (.cells #[.int .i64 7, .int .i64 1, .int .i64 2, .int .i64 1, .int .i64 2, .int .i64 2, .int .i64 3] 3)
  have hta := Blk.new (w.alloc (.cells #[.string ⟨#[110, 97, 109, 101]⟩, .string ⟨#[116, 121, 112, 101]⟩, .string ⟨#[109, 97, 110, 121]⟩, .string ⟨#[117, 110, 105, 113, 117, 101]⟩, .string ⟨#[112, 97, 114, 116]⟩, .string ⟨#[105, 110, 100, 101, 120]⟩, .string ⟨#[100, 111, 99]⟩] 9)) [.int .i64 7, .int .i64 1, .int .i64 2, .int .i64 1, .int .i64 2, .int .i64 2, .int .i64 3] 3 hsz.symm
  go_enter Try.func16, Try.ntmps16
  go_upto_region 3 with fail
  have hn2 := hna.below hBb hna.lt
  have HB := Lib.hid (hBa.trans (hBb.mono hBa.size))
  have hs2 : ((w.alloc (.cells #[.string ⟨#[110, 97, 109, 101]⟩, .string ⟨#[116, 121, 112, 101]⟩, .string ⟨#[109, 97, 110, 121]⟩, .string ⟨#[117, 110, 105, 113, 117, 101]⟩, .string ⟨#[112, 97, 114, 116]⟩, .string ⟨#[105, 110, 100, 101, 120]⟩, .string ⟨#[100, 111, 99]⟩] 9)).alloc (.cells #[.int .i64 7, .int .i64 1, .int .i64 2, .int .i64 1, .int .i64 2, .int .i64 2, .int .i64 3] 3)).heap.size = w.heap.size + 2 := by simp
  generalize (w.alloc (.cells #[.string ⟨#[110, 97, 109, 101]⟩, .string ⟨#[116, 121, 112, 101]⟩, .string ⟨#[109, 97, 110, 121]⟩, .string ⟨#[117, 110, 105, 113, 117, 101]⟩, .string ⟨#[112, 97, 114, 116]⟩, .string ⟨#[105, 110, 100, 101, 120]⟩, .string ⟨#[100, 111, 99]⟩] 9)).alloc (.cells #[.int .i64 7, .int .i64 1, .int .i64 2, .int .i64 1, .int .i64 2, .int .i64 2, .int .i64 3] 3) = w2 at *
  clear hna hBa hBb hsz
  go_wp2_with fail
  go_loopw [3, 4, 5] (fun t3 t4 _ wr => ∃ k : Nat, k ≤ 7 ∧ t4 = .int .i64 k ∧ OwnA (w.heap.size + 2) wr t3 (builtinL.take k) ∧ Below w.heap.size w wr ∧ w.heap.size + 2 ≤ wr.heap.size ∧ Blk wr w.heap.size [.string ⟨#[110, 97, 109, 101]⟩, .string ⟨#[116, 121, 112, 101]⟩, .string ⟨#[109, 97, 110, 121]⟩, .string ⟨#[117, 110, 105, 113, 117, 101]⟩, .string ⟨#[112, 97, 114, 116]⟩, .string ⟨#[105, 110, 100, 101, 120]⟩, .string ⟨#[100, 111, 99]⟩] 9 ∧ Blk wr (w.heap.size + 1) [.int .i64 7, .int .i64 1, .int .i64 2, .int .i64 1, .int .i64 2, .int .i64 2, .int .i64 3] 3) (fun _ t4 _ _ => 7 - (intOf t4).toNat)
  case atStart => exact ⟨0, by omega, rfl, Own.nil _ _ _ _ _, HB.out, by omega, hn2, hta⟩
  case round =>
    obtain ⟨k, hk, rfl, ho, hB, hsz, hn, ht⟩ := hrel
    obtain ⟨wo, ewo⟩ : ∃ x, x = wr := ⟨_, rfl⟩
    subst ewo
    have Hn := Lib.hid hn
    have Ht := Lib.hid ht
    have Ho := Lib.hid ho
    have HBo := Lib.hid hB
    by_cases hlt : k < 7
    · have kk0 : (0 : Int) ≤ (k : Int) := by omega
      have kkl : (k : Int) < 7 := by omega
      have n0 : wo.cell? ⟨w.heap.size, k, none⟩ = some (.string ⟨(nmL.getD k []).toArray⟩) := by
        have : ([.string ⟨#[110, 97, 109, 101]⟩, .string ⟨#[116, 121, 112, 101]⟩, .string ⟨#[109, 97, 110, 121]⟩, .string ⟨#[117, 110, 105, 113, 117, 101]⟩, .string ⟨#[112, 97, 114, 116]⟩, .string ⟨#[105, 110, 100, 101, 120]⟩, .string ⟨#[100, 111, 99]⟩] : List Value)[k]? = some (.string ⟨(nmL.getD k []).toArray⟩) := by rcases k with _ | _ | _ | _ | _ | _ | _ | k <;> first | rfl | omega
        have h2 := hn.cells k _ this
        rwa [Nat.zero_add] at h2
      have t0 : wo.cell? ⟨w.heap.size + 1, k, none⟩ = some (.int .i64 (tyL.getD k 0)) := by
        have : ([.int .i64 7, .int .i64 1, .int .i64 2, .int .i64 1, .int .i64 2, .int .i64 2, .int .i64 3] : List Value)[k]? = some (.int .i64 (tyL.getD k 0)) := by rcases k with _ | _ | _ | _ | _ | _ | _ | k <;> first | rfl | omega
        have h2 := ht.cells k _ this
        rwa [Nat.zero_add] at h2
      have Hst := Lib.hid (builtin_take k hlt)
      have hsl : (nmL.getD k []).length ≤ 7 := by rcases k with _ | _ | _ | _ | _ | _ | _ | k <;> first | decide | omega
      have wk : IntKind.i64.wrap ((k : Int) + 1) = (k : Int) + 1 := wrap_ok (by omega) (by omega)
      have hn1 := hn.lt
      have ht1 := ht.lt
      obtain ⟨p3, c3, rfl⟩ := Own.slice ho
      have hvlt := Own.lt ho
      clear hn ht ho hB
      generalize nmL.getD k [] = s at *
      obtain ⟨nm, hnm⟩ : ∃ nm, nm = [100, 98, 47] ++ s := ⟨_, rfl⟩
      rw [← hnm] at Hst
      have Hnm := Lib.hid hnm
      clear hnm
      generalize tyL.getD k 0 = ty at *
      obtain ⟨X, hX⟩ : ∃ X, X = builtinL.take k := ⟨_, rfl⟩
      have hXl : X.length ≤ 7 := by rw [hX, List.length_take]; omega
      rw [← hX] at Ho Hst hvlt ⊢
      clear hX
      go_upto_region 7 with fail
      refine wp_region_held_drew (S := fun w' => Below wo.heap.size wo w') (by kernel_rfl) (Below.drew (Below.refl _ _)) (fun hHeld => ?_)
      refine wpAnyH_take (i := 0) (v := .int .i64 ((k : Int))) rfl (by kernel_rfl) (by kernel_rfl) (by kernel_rfl) (fun _ _ _ h => h) (Or.inl ⟨by rfl, ?_⟩) hHeld ?_
      · intro w' hSw; go_simp <;> omega
      try simp only [Act.put, List.getElem_toArray, List.getElem_cons_succ, List.getElem_cons_zero, List.setIfInBounds_toArray, List.set_cons_zero, List.set_cons_succ]
      refine wpAnyH_take (i := 1) (v := .int .i64 (((k : Int) + 1))) rfl (by kernel_rfl) (by kernel_rfl) (by kernel_rfl) (fun _ _ _ h => h) (Or.inl ⟨by rfl, ?_⟩) hHeld ?_
      · intro w' hSw; go_simp <;> omega
      try simp only [Act.put, List.getElem_toArray, List.getElem_cons_succ, List.getElem_cons_zero, List.setIfInBounds_toArray, List.set_cons_zero, List.set_cons_succ]
      refine wpAnyH_take (i := 2) (v := .slice (some ⟨w.heap.size, 0, none⟩) 7 7) rfl (by kernel_rfl) (by kernel_rfl) (by kernel_rfl) (fun _ _ _ h => h) (Or.inl ⟨by rfl, ?_⟩) hHeld ?_
      · intro w' hSw; go_simp <;> omega
      try simp only [Act.put, List.getElem_toArray, List.getElem_cons_succ, List.getElem_cons_zero, List.setIfInBounds_toArray, List.set_cons_zero, List.set_cons_succ]
      refine wpAnyH_take (i := 3) (v := .int .i64 ((k : Int))) rfl (by kernel_rfl) (by kernel_rfl) (by kernel_rfl) (fun _ _ _ h => h) (Or.inl ⟨by rfl, ?_⟩) hHeld ?_
      · intro w' hSw; go_simp <;> omega
      try simp only [Act.put, List.getElem_toArray, List.getElem_cons_succ, List.getElem_cons_zero, List.setIfInBounds_toArray, List.set_cons_zero, List.set_cons_succ]
      refine wpAnyH_take (i := 4) (v := .pointer (some ⟨w.heap.size, k, none⟩)) rfl (by kernel_rfl) (by kernel_rfl) (by kernel_rfl) (fun _ _ _ h => h) (Or.inl ⟨by rfl, ?_⟩) hHeld ?_
      · intro w' hSw; go_simp <;> omega
      try simp only [Act.put, List.getElem_toArray, List.getElem_cons_succ, List.getElem_cons_zero, List.setIfInBounds_toArray, List.set_cons_zero, List.set_cons_succ]
      refine wpAnyH_take (i := 5) (v := .string ⟨s.toArray⟩) rfl (by kernel_rfl) (by kernel_rfl) (by kernel_rfl) (fun _ _ _ h => h) (Or.inl ⟨by rfl, ?_⟩) hHeld ?_
      · intro w' hSw; have kx := (World.cell?_of_block (hSw.block _ hn1)).trans n0; go_simp
      try simp only [Act.put, List.getElem_toArray, List.getElem_cons_succ, List.getElem_cons_zero, List.setIfInBounds_toArray, List.set_cons_zero, List.set_cons_succ]
      refine wpAnyH_take (i := 6) (v := .string ⟨nm.toArray⟩) rfl (by kernel_rfl) (by kernel_rfl) (by kernel_rfl) (fun _ _ _ h => h) (Or.inl ⟨by rfl, ?_⟩) hHeld ?_
      · intro w' hSw; rw [Hnm.out]; have kx := cat3 s; go_simp <;> omega
      try simp only [Act.put, List.getElem_toArray, List.getElem_cons_succ, List.getElem_cons_zero, List.setIfInBounds_toArray, List.set_cons_zero, List.set_cons_succ]
      refine wpAnyH_take (i := 7) (v := .slice (some ⟨(w.heap.size + 1), 0, none⟩) 7 7) rfl (by kernel_rfl) (by kernel_rfl) (by kernel_rfl) (fun _ _ _ h => h) (Or.inl ⟨by rfl, ?_⟩) hHeld ?_
      · intro w' hSw; go_simp <;> omega
      try simp only [Act.put, List.getElem_toArray, List.getElem_cons_succ, List.getElem_cons_zero, List.setIfInBounds_toArray, List.set_cons_zero, List.set_cons_succ]
      refine wpAnyH_take (i := 8) (v := .int .i64 ((k : Int))) rfl (by kernel_rfl) (by kernel_rfl) (by kernel_rfl) (fun _ _ _ h => h) (Or.inl ⟨by rfl, ?_⟩) hHeld ?_
      · intro w' hSw; go_simp <;> omega
      try simp only [Act.put, List.getElem_toArray, List.getElem_cons_succ, List.getElem_cons_zero, List.setIfInBounds_toArray, List.set_cons_zero, List.set_cons_succ]
      refine wpAnyH_take (i := 9) (v := .pointer (some ⟨(w.heap.size + 1), k, none⟩)) rfl (by kernel_rfl) (by kernel_rfl) (by kernel_rfl) (fun _ _ _ h => h) (Or.inl ⟨by rfl, ?_⟩) hHeld ?_
      · intro w' hSw; go_simp <;> omega
      try simp only [Act.put, List.getElem_toArray, List.getElem_cons_succ, List.getElem_cons_zero, List.setIfInBounds_toArray, List.set_cons_zero, List.set_cons_succ]
      refine wpAnyH_take (i := 10) (v := .int .i64 ty) rfl (by kernel_rfl) (by kernel_rfl) (by kernel_rfl) (fun _ _ _ h => h) (Or.inl ⟨by rfl, ?_⟩) hHeld ?_
      · intro w' hSw; have kx := (World.cell?_of_block (hSw.block _ ht1)).trans t0; go_simp
      try simp only [Act.put, List.getElem_toArray, List.getElem_cons_succ, List.getElem_cons_zero, List.setIfInBounds_toArray, List.set_cons_zero, List.set_cons_succ]
      refine wpAnyH_take (i := 11) (v := .agg #[.int .i64 (((k : Int) + 1)), .string ⟨nm.toArray⟩, .int .i64 ty, .bool false, .int .i64 0, .bool false, .bool false]) rfl (by kernel_rfl) (by kernel_rfl) (by kernel_rfl) (fun _ _ _ h => h) (Or.inl ⟨by rfl, ?_⟩) hHeld ?_
      · intro w' hSw; go_simp <;> omega
      try simp only [Act.put, List.getElem_toArray, List.getElem_cons_succ, List.getElem_cons_zero, List.setIfInBounds_toArray, List.set_cons_zero, List.set_cons_succ]
      refine wpAnyH_ready (rs := [12]) (by kernel_rfl) (by simp) ?_
      refine allVal (v := .pointer (some ⟨wo.heap.size, 0, none⟩)) (w' := wo.drew.alloc (.cells #[.int .i64 0, .string ⟨#[]⟩, .int .i64 0, .bool false, .int .i64 0, .bool false, .bool false] 24)) rfl (by kernel_rfl) ?_ (hHeld.alloc hHeld.size _) ?_ AllReadyH.nil
      · go_simp
      try simp only [Act.put, List.getElem_toArray, List.getElem_cons_succ, List.getElem_cons_zero, List.setIfInBounds_toArray, List.set_cons_zero, List.set_cons_succ]
      have hHeld3 := hHeld.alloc hHeld.size (.cells #[.int .i64 (((k : Int) + 1)), .string ⟨nm.toArray⟩, .int .i64 ty, .bool false, .int .i64 0, .bool false, .bool false] 24)
      have hHeld2 := hHeld.alloc hHeld.size (.cells #[.int .i64 0, .string ⟨#[]⟩, .int .i64 0, .bool false, .int .i64 0, .bool false, .bool false] 24)
      clear hHeld
      have hHeld := hHeld2
      clear hHeld2
      refine wpAnyH_ready (rs := [13]) (by kernel_rfl) (by simp) ?_
      refine allSkip (w' := wo.drew.alloc (.cells #[.int .i64 (((k : Int) + 1)), .string ⟨nm.toArray⟩, .int .i64 ty, .bool false, .int .i64 0, .bool false, .bool false] 24)) rfl (by kernel_rfl) ?_ hHeld3 ?_ AllReadyH.nil
      · go_simp
      try simp only [Act.put, List.getElem_toArray, List.getElem_cons_succ, List.getElem_cons_zero, List.setIfInBounds_toArray, List.set_cons_zero, List.set_cons_succ]
      have hal := hHeld3
      have hbk := Blk.new wo.drew [.int .i64 (((k : Int) + 1)), .string ⟨nm.toArray⟩, .int .i64 ty, .bool false, .int .i64 0, .bool false, .bool false] 24 (n := wo.heap.size) rfl
      clear hHeld3
      refine wpAnyH_done (by kernel_rfl) ?_ _
      clear hHeld
      generalize wo.drew.alloc (.cells #[.int .i64 (((k : Int) + 1)), .string ⟨nm.toArray⟩, .int .i64 ty, .bool false, .int .i64 0, .bool false, .bool false] 24) = wa at *
      have HBa := Lib.hid (HBo.out.trans (hal.mono HBo.out.size))
      have Hoa := Lib.hid (Own.kept Ho.out hal)
      have Hna := Lib.hid (Hn.out.below hal hn1)
      have Hta := Lib.hid (Ht.out.below hal ht1)
      have hsa := hal.size
      have hql := hbk.lt
      obtain ⟨a0, a1, a2, a3, a4, a5, a6⟩ := hbk.cells.c7
      have f4 := hbk.free 4
      have hvo : ∀ z, z < w.heap.size + 2 → (Value.slice p3 X.length c3).ownBlock ≠ some z := fun z hz e => by have := (hvlt z e).1; omega
      have hvq : (Value.slice p3 X.length c3).ownBlock ≠ some wo.heap.size := fun e => by have := (hvlt _ e).2; omega
      clear n0 t0
      by_cases hk0 : k = 0
      · have kz : ((k : Int) == 0) = true := by simpa using hk0
        have Hkz := Lib.hid hk0
        have hk9 := Lib.hid hk0
        rw [if_pos hk0] at Hst
        clear hk0
        have hO3 : Only (· = wo.heap.size) wa (wa.setCell ⟨wo.heap.size, 4, none⟩ (.int .i64 2)) := Only.setCell (A := (· = wo.heap.size)) wa (p := ⟨wo.heap.size, 4, none⟩) rfl _
        have hs3 : (wa.setCell ⟨wo.heap.size, 4, none⟩ (.int .i64 2)).heap.size = wa.heap.size := by simp
        obtain ⟨v8, w8, hr8, ho8, ha8⟩ := appA1 (Own.only Hoa.out hO3 (fun z e => by rw [e]; exact hvq)) ⟨(k : Int) + 1, nm, ty, false, 2, false, false⟩ (n := wa.heap.size) hs3.symm (by omega) (by rw [hs3]; omega)
        have hs8 := ha8.grown.size
        rw [hs3] at hs8
        have Ho8 := Lib.hid ho8
        have HB8 := Lib.hid ((HBa.out.trans (hO3.below (B := w.heap.size) HBa.out.size (fun z e => by omega))).trans (ha8.below (B := w.heap.size) (by rw [hs3]; have := HBa.out.size; omega) (fun z hz => by have := (hvlt z hz).1; omega)))
        have HN8 := Lib.hid (ha8.blk (hO3.blk Hna.out (by omega)) (hvo _ (by omega)))
        have HT8 := Lib.hid (ha8.blk (hO3.blk Hta.out (by omega)) (hvo _ (by omega)))
        clear ho8 ha8 hO3 hvo hvq hvlt
        go_wp2_with (at_builtin; refine AtApp.of ?_)
        refine AtApp.go hr8 rfl rfl rfl rfl ?_
        clear hr8
        go_wp2_with fail
        go_roundw
        case rel => exact ⟨k + 1, by omega, by go_num, by rw [Hst.out]; exact Ho8.out, HB8.out, by omega, HN8.out, HT8.out⟩
        case measure => simp [intOf]; omega
      · have kz : ((k : Int) == 0) = false := by simpa using (show ¬ (k : Int) = 0 by omega)
        rw [if_neg hk0] at Hst
        have hO3 : Only (· = wo.heap.size) wa wa := Only.refl _ _
        obtain ⟨v8, w8, hr8, ho8, ha8⟩ := appA1 Hoa.out ⟨(k : Int) + 1, nm, ty, false, 0, false, false⟩ (n := wa.heap.size) rfl (by omega) (by omega)
        have hs8 := ha8.grown.size
        have Ho8 := Lib.hid ho8
        have HB8 := Lib.hid ((HBa.out.trans (hO3.below (B := w.heap.size) HBa.out.size (fun z e => by omega))).trans (ha8.below (B := w.heap.size) (by have := HBa.out.size; omega) (fun z hz => by have := (hvlt z hz).1; omega)))
        have HN8 := Lib.hid (ha8.blk (hO3.blk Hna.out (by omega)) (hvo _ (by omega)))
        have HT8 := Lib.hid (ha8.blk (hO3.blk Hta.out (by omega)) (hvo _ (by omega)))
        clear ho8 ha8 hO3 hvo hvq hvlt
        go_wp2_with (at_builtin; refine AtApp.of ?_)
        refine AtApp.go hr8 rfl rfl rfl rfl ?_
        clear hr8
        go_wp2_with fail
        go_roundw
        case rel => exact ⟨k + 1, by omega, by go_num, by rw [Hst.out]; exact Ho8.out, HB8.out, by omega, HN8.out, HT8.out⟩
        case measure => simp [intOf]; omega
    · obtain rfl : k = 7 := by omega
      have hr := HR.out wo _ HBo.out (OwnA.lower Ho.out (by omega))
      clear ho hB hn ht
      go_wp2_with fail
      first | exact hr | exact fin hr rfl
end Go.Proofs.Ytkcpanaojehgiaa
