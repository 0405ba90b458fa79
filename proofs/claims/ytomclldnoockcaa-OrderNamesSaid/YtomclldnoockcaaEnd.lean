/- order.End, and how bytes stand (the document's Bytes). -/
import Derived.Test.YtomclldnoockcaaOrder
namespace Go.Proofs.Ytomclldnoockcaa
open Go.RowKit

set_option maxRecDepth 100000 in
set_option maxHeartbeats 2000000 in
theorem End_any (lo hi : Nat) (v : Value) (l : List UInt8) (w : World) (hv : Bytes lo hi w v l) (hhi : hi ≤ w.heap.size) (hlen : l.length ≤ 100000000) (R : Ending → World → Prop)
    (hno : endP l = none → ∀ w', Below w.heap.size w w' → R (.returned (.tuple #[.slice none 0 0, .bool false])) w')
    (hyes : ∀ e, endP l = some e → ∀ w' v', Below w.heap.size w w' → OwnB w.heap.size w' v' e → R (.returned (.tuple #[v', .bool true])) w') :
    Calls Try.prog 10 #[v] w R := by
  have Hno := Lib.hid hno
  have Hyes := Lib.hid hyes
  clear hno hyes
  obtain ⟨ao, cap, rfl, hl1, hl2, _, hc⟩ := hv.form
  have Hc := Lib.hid hc
  clear hc
  go_enter Try.func10, Try.ntmps10
  go_wp2_with fail
  go_loopw [4] (fun t4 wr => ∃ n : Nat, n ≤ l.length ∧ t4 = .int .i64 n ∧ (∀ i (h : i < l.length), n ≤ i → l[i] = 255) ∧ Below w.heap.size w wr) (fun t4 _ => (intOf t4).toNat)
  case atStart => exact ⟨l.length, Nat.le_refl _, rfl, by intro i h h'; omega, Below.refl _ _⟩
  case round =>
    obtain ⟨n, hn, rfl, hff, hB⟩ := hrel
    have Hff := Lib.hid hff
    clear hff
    by_cases h0 : n = 0
    · subst h0
      go_wp2_with fail
      exact fin (Hno.out (endP_none l (fun c hc => by obtain ⟨i, hi, rfl⟩ := List.getElem_of_mem hc; exact Hff.out i hi (Nat.zero_le _))) _ hB) rfl
    · obtain ⟨m, rfl⟩ : ∃ m, n = m + 1 := ⟨n - 1, by omega⟩
      obtain ⟨b, off, rfl, hb1, hb2, hcc⟩ := Hc.out m (by omega)
      obtain ⟨cs, _, hcs, rfl⟩ := hcc m (by omega)
      have g0 := (hcs.agree (.below hB hhi) hb1 hb2).c1
      rw [Nat.mul_one] at g0
      clear hcs
      have hm : m < l.length := by omega
      by_cases h255 : l[m] = 255
      · have t255 : ((l[m].toNat : Int) == 255) = true := by rw [h255]; rfl
        have H255 := Lib.hid h255
        clear h255
        go_wp2_with (at_builtin; refine AtApp.of ?_)
        go_roundw
        case rel =>
          refine ⟨m, by omega, rfl, fun i hi hmi => ?_, hB⟩
          by_cases e : i = m
          · subst e; exact H255.out
          · exact Hff.out i hi (by omega)
        case measure => simp [intOf]
      · have t255 : ((l[m].toNat : Int) == 255) = false := by
          have : l[m].toNat ≠ 255 := fun e => h255 (by rw [← UInt8.toNat_inj]; exact e)
          simp; omega
        have hlt : l[m].toNat + 1 < 256 := by
          have h1 : l[m].toNat ≠ 255 := fun e => h255 (by rw [← UInt8.toNat_inj]; exact e)
          have := l[m].toNat_lt
          omega
        have He := Lib.hid (endP_some l m hm (fun i hi h => Hff.out i hi h) h255)
        have hpc := Sl.piece (cap := cap) hcc hb1 hb2 0 (m + 1) cap (by omega) (by omega) (by simp only [maxLen]; omega)
        rw [List.drop_zero, Nat.zero_mul, Nat.add_zero] at hpc
        have hpl : (l.take (m + 1)).length = m + 1 := by rw [List.length_take]; omega
        have Htk := Lib.hid (List.take_succ_eq_append_getElem hm)
        clear h255 hcc
        go_wp2_with (at_builtin; refine AtApp.of ?_)
        have hB1 : Below wr.heap.size wr (wr.alloc (.cells #[] 5)) := (Below.refl _ _).alloc (Nat.le_refl _) _
        obtain ⟨v2, w2, hr, ho2, ha2⟩ := appB (ys := l.take (m + 1)) (Own.made bE 5 1 w.heap.size wr rfl hB.size) (Src.ofSl (hpc.below (flat_loc _) (hB.trans (hB1.mono hB.size)) hhi) (fun _ => rfl) (fun x u hu => by simp [bE] at hu; subst hu; rfl) Try.underlying22) (by rw [hpl]; simp; omega) (Nat.le_trans hB.size hB1.size)
        refine AtApp.go hr rfl rfl rfl rfl ?_
        have hB2 : Below w.heap.size w w2 := (hB.trans (hB1.mono hB.size)).trans (ha2.below (Nat.le_trans hB.size hB1.size) (fun k e => by simp [Value.ownBlock] at e; subst e; exact hB.size))
        rw [List.nil_append] at ho2
        obtain ⟨g, cp, rfl, hg1, hg2, hg3, hg4, hg5, hg6⟩ := ho2.form (by intro e; rw [e] at hpl; simp at hpl)
        have c0 := hg5 m (.int .u8 l[m].toNat) (by rw [flatMap_bE]; simp [List.getElem?_take, hm])
        rw [Nat.zero_add] at c0
        have f0 := hg6 m
        have hst := (World.ownsRow.stored ho2 m (.int .u8 ((l[m].toNat : Int) + 1))).1
        rw [hpl] at *
        have Hst := Lib.hid hst
        clear hr ho2 ha2 hst hpc hB1 g0 hg5 hg6
        go_wp2
        exact fin (Hyes.out _ He.out _ (.slice (some ⟨g, 0, none⟩) (m + 1) cp) (hB2.setCell (p := ⟨g, m, none⟩) hg1 _) (by
          have hln : (l.take m ++ [l[m] + 1]).length = m + 1 := by simp; omega
          unfold OwnB Own
          rw [hln]
          have h2 := Hst.out
          have e : (List.flatMap bE (List.take (m + 1) l)).set m (.int .u8 ((l[m].toNat : Int) + 1)) = (l.take m ++ [l[m] + 1]).flatMap bE := by
            rw [Htk.out, flatMap_bE, flatMap_bE, List.map_append, List.map_append, List.set_append_right _ _ (by simp; omega)]
            have e1 : (l[m] + 1).toNat = l[m].toNat + 1 := by rw [UInt8.toNat_add]; simp; omega
            simp [e1, show m - min m l.length = 0 by omega]
          rw [e] at h2
          exact h2)) rfl

set_option maxRecDepth 100000 in
set_option maxHeartbeats 2000000 in
theorem Bytes_any (lo hi : Nat) (v1 v2 : Value) (a b : List UInt8) (w : World) (hv1 : Bytes lo hi w v1 a) (hv2 : Bytes lo hi w v2 b) (hhi : hi ≤ w.heap.size) (R : Ending → World → Prop)
    (hR : ∀ w', Below w.heap.size w w' → R (.returned (.int .i64 (Lib.compareBytes a b))) w') : Calls Try.prog 11 #[v1, v2] w R := by
  obtain ⟨ao, cap, rfl, hl1, hl2, -, hc⟩ := hv1.form
  obtain ⟨ao2, cap2, rfl, hl3, hl4, -, hc2⟩ := hv2.form
  have Hc := Lib.hid hc
  have Hc2 := Lib.hid hc2
  clear hc hc2
  go_enter Try.func11, Try.ntmps11
  go_wp2_with fail
  go_loopw [5] (fun t5 wr => ∃ k : Nat, k ≤ a.length ∧ k ≤ b.length ∧ t5 = .int .i64 k ∧ a.take k = b.take k ∧ Below w.heap.size w wr) (fun t5 _ => a.length - (intOf t5).toNat)
  case atStart => exact ⟨0, Nat.zero_le _, Nat.zero_le _, rfl, rfl, Below.refl _ _⟩
  case round =>
    obtain ⟨k, hka, hkb, rfl, htake, hB⟩ := hrel
    have Htake := Lib.hid htake
    clear htake
    have Hcb := Lib.hid (compareBytes_take a b k Htake.out hka hkb)
    by_cases hla : k < a.length
    · by_cases hlb : k < b.length
      · obtain ⟨b1, off1, rfl, p1, p2, q1⟩ := Hc.out k hla
        obtain ⟨b2, off2, rfl, p3, p4, q2⟩ := Hc2.out k hlb
        obtain ⟨cs, _, hcs, rfl⟩ := q1 k hla
        obtain ⟨cs2, _, hcs2, rfl⟩ := q2 k hlb
        have g0 := (hcs.agree (.below hB hhi) p1 p2).c1
        have g1 := (hcs2.agree (.below hB hhi) p3 p4).c1
        rw [Nat.mul_one] at g0 g1
        clear hcs hcs2 q1 q2
        have Hda := Lib.hid (List.drop_eq_getElem_cons hla)
        have Hdb := Lib.hid (List.drop_eq_getElem_cons hlb)
        have Hta := Lib.hid (List.take_succ_eq_append_getElem hla)
        have Htb := Lib.hid (List.take_succ_eq_append_getElem hlb)
        generalize a[k] = x at *
        generalize b[k] = y at *
        by_cases hxy : x.toNat < y.toNat
        · have Hx : Hid (x < y) := by rw [Hid, UInt8.lt_iff_toNat_lt]; omega
          go_wp2_with fail
          go_quiet (fail)
          go_wp2_with fail
          all_goals first | exact fin (hR _ (drewN hB _)) (show Value.int _ _ = Value.int _ _ by rw [Hcb.out, Hda.out, Hdb.out]; simp [Lib.compareBytes, Hx.out]) | skip
        by_cases hyx : y.toNat < x.toNat
        · have Hx : Hid (¬ x < y ∧ y < x) := by rw [Hid, UInt8.lt_iff_toNat_lt, UInt8.lt_iff_toNat_lt]; omega
          go_wp2_with fail
          go_quiet (fail)
          go_wp2_with fail
          go_quiet (fail)
          go_wp2_with fail
          all_goals first | exact fin (hR _ (by repeat (first | exact hB | apply drewN))) (show Value.int _ _ = Value.int _ _ by rw [Hcb.out, Hda.out, Hdb.out]; simp [Lib.compareBytes, Hx.out]) | skip
        · have Hx : Hid (x = y) := by rw [Hid, ← UInt8.toNat_inj]; omega
          go_wp2_with fail
          go_quiet (fail)
          go_wp2_with fail
          go_quiet (fail)
          go_wp2_with fail
          go_roundw
          case rel => exact ⟨k + 1, by omega, by omega, by go_num, by rw [Hta.out, Htb.out, Htake.out, Hx.out], by repeat (first | exact hB | apply drewN)⟩
          case measure => simp [intOf]; omega
      · have Hdb := Lib.hid (List.drop_eq_nil_of_le (show b.length ≤ k by omega))
        have Hda := Lib.hid (List.drop_eq_getElem_cons hla)
        go_wp2_with fail
        exact fin (hR _ hB) (show Value.int _ _ = Value.int _ _ by rw [Hcb.out, Hda.out, Hdb.out]; rfl)
    · have Hda := Lib.hid (List.drop_eq_nil_of_le (show a.length ≤ k by omega))
      by_cases hlb : k < b.length
      · have Hdb := Lib.hid (List.drop_eq_getElem_cons hlb)
        go_wp2_with fail
        exact fin (hR _ hB) (show Value.int _ _ = Value.int _ _ by rw [Hcb.out, Hda.out, Hdb.out]; rfl)
      · have Hdb := Lib.hid (List.drop_eq_nil_of_le (show b.length ≤ k by omega))
        go_wp2_with fail
        exact fin (hR _ hB) (show Value.int _ _ = Value.int _ _ by rw [Hcb.out, Hda.out, Hdb.out]; rfl)
end Go.Proofs.Ytomclldnoockcaa
