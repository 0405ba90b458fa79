/- Texts that the proofs of FoldGroups stand on, part 3. -/
import Derived.Test.YtpncblagjkbemaaKFoldGroups2
/- The library's merge in place, at rows' headers: the great case, and all. (Printed by stb.py.) -/
section
set_option linter.unusedVariables false
set_option linter.unusedSimpArgs false
namespace Go.Proofs.Ytpncblagjkbemaa
open Go.RowKit Go.Sort Go.Shelf
set_option linter.unusedVariables false
set_option linter.unusedSimpArgs false
variable {α : Type} [Inhabited α]

set_option maxHeartbeats 64000000 in
set_option maxRecDepth 1000000 in
theorem symMergeG_s (enc : α → Value) (cf : α → α → Int) (hO : SWO (ltOf cf)) (N g : Nat) (cb : Array Value) (blk off cap a m b : Nat) (d0 d : Array α) (w0 w : World)
    (eg : ∀ args w, (callFunc g args).run Try.prog w = .ok (.enter g args) w) (hcmp : CmpLays1 Try.prog g cb enc cf blk off d0.size w0) (R : Go.Proofs.Row1 enc w0 blk off d0) (hs : d0.size = d.size) (S : SW enc w0 blk off d w) (ham : a < m) (hmb : m < b) (hb : b ≤ d.size) (hsz : d.size < 4611686018427387904)
    (hs1 : SortedIn (ltOf cf) a m d) (hs2 : SortedIn (ltOf cf) m b d) (hm1 : m ≠ a + 1) (hm2 : b ≠ m + 1)
    (ih : ∀ (a m b : Nat) (d : Array α) (w : World) (hs : d0.size = d.size) (S : SW enc w0 blk off d w) (ham : a < m) (hmb : m < b) (hb : b ≤ d.size) (hsz : d.size < 4611686018427387904) (hs1 : SortedIn (ltOf cf) a m d) (hs2 : SortedIn (ltOf cf) m b d), b - a < N → Calls Try.prog 133 #[.slice (some ⟨blk, off, none⟩) d.size cap, .int .i64 a, .int .i64 m, .int .i64 b, .func (.func g) #[] cb] w (SymPost enc (ltOf cf) w0 blk off a b d)) (hN : b - a ≤ N) :
    Calls Try.prog 133 #[.slice (some ⟨blk, off, none⟩) d.size cap, .int .i64 a, .int .i64 m, .int .i64 b, .func (.func g) #[] cb] w (SymPost enc (ltOf cf) w0 blk off a b d) := by
  have mixed : Try.prog.follows .mixedOrders = true := by kernel_rfl
  have hcl0 := R.hO.cells
  simp only [Value.cells] at hcl0
  have hst := R.hO.store Try.prog
  have S0 : Aside (SW enc w0 blk off d w) := S
  have HC : Aside _ := hcmp
  have HR := Lib.hid R
  have HO := Lib.hid hO
  have Hs1 := Lib.hid hs1
  have Hs2 := Lib.hid hs2
  have Hs := Lib.hid hs
  have hszI : (d.size : Int) < 4611686018427387904 := by omega
  have hbI : (b : Int) ≤ (d.size : Int) := by omega
  clear S hcmp R hs1 hs2 hO hs
  have ih := fun a' m' b' d' w' h1 h2 h3 h4 h5 h6 h7 h8 h9 => ih a' m' b' d' w' h1 h2 h3 h4 h5 h6 h7 h8 h9
  obtain ⟨q1, hq1⟩ : ∃ q, q = m - a := ⟨_, rfl⟩
  have e1 : (m : Int) - (a : Int) = (q1 : Int) := by omega
  have g0 : ((q1 : Int) == 1) = false := by simp; omega
  obtain ⟨q2, hq2⟩ : ∃ q, q = b - m := ⟨_, rfl⟩
  have e2 : (b : Int) - (m : Int) = (q2 : Int) := by omega
  have g1 : ((q2 : Int) == 1) = false := by simp; omega
  obtain ⟨mid, hmid⟩ : ∃ q, q = (a + b) / 2 := ⟨_, rfl⟩
  have w1 : IntKind.i64.wrap ((a : Int) + (b : Int)) = (a : Int) + (b : Int) := wrapOk (by omega) (by omega)
  have w2 : IntKind.u64.wrap ((a : Int) + (b : Int)) = (a : Int) + (b : Int) := wrapU (by omega) (by omega)
  have w3 : ((a : Int) + (b : Int)) / 2 = (mid : Int) := by omega
  have h1mid : a ≤ mid ∧ mid < b := by omega
  have zzmid : (0 : Int) ≤ (mid : Int) := by omega
  have zlmid : (mid : Int) < (d.size : Int) := by omega
  obtain ⟨n, hn⟩ : ∃ n, n = mid + m := ⟨_, rfl⟩
  have e3 : (mid : Int) + (m : Int) = (n : Int) := by omega
  have hmidb : 2 * mid ≤ a + b ∧ a + b ≤ 2 * mid + 1 := by omega
  obtain ⟨p, hp⟩ : ∃ p, p = n - 1 := ⟨_, rfl⟩
  have e4 : (n : Int) - 1 = (p : Int) := by omega
  have hcase : ∃ lo hi : Nat, (m > mid → lo = n - b ∧ hi = mid) ∧ (¬ m > mid → lo = a ∧ hi = m) ∧ a ≤ lo ∧ lo ≤ hi ∧ hi ≤ m ∧ hi ≤ mid ∧ n ≤ b + lo ∧ lo ≤ n := by
    by_cases hc : m > mid
    · exact ⟨n - b, mid, fun _ => ⟨rfl, rfl⟩, fun h => absurd hc h, by omega, by omega, by omega, by omega, by omega, by omega⟩
    · exact ⟨a, m, fun h => absurd h hc, fun _ => ⟨rfl, rfl⟩, by omega, by omega, by omega, by omega, by omega, by omega⟩
  obtain ⟨lo, hi, hc1, hc2, hal, hlh, hhm, hhmid, hnl, hln⟩ := hcase
  have Hc1 := Lib.hid hc1
  have Hc2 := Lib.hid hc2
  have Hn := Lib.hid hn
  have Hp := Lib.hid hp
  have hmidb2 : mid < b ∧ a < mid := by omega
  have Hmb := Lib.hid hmidb2
  clear hq1 hq2 hn hp hmid hmidb hmidb2 hc1 hc2
  by_cases hm : m > mid
  · have hc := Hc1.out hm
    obtain ⟨hl0, hh0⟩ := hc
    have e5 : (n : Int) - (b : Int) = (lo : Int) := by have := Hn.out; omega
    have g2 : (mid : Int) < (m : Int) := by omega
    have Hh0 := Lib.hid hh0
    have Hl0 : Hid (lo = lo) := Lib.hid rfl
    clear hl0 hh0
    clear hm hm1 hm2
    go_enter Try.func133, Try.ntmps133
    go_wp2_with fail
    clear e1 e2 g0 g1 e3 e4 g2
    go_loopw [20, 21] (fun t20 t21 wr => ∃ (s r : Nat), t20 = .int .i64 s ∧ t21 = .int .i64 r ∧ lo ≤ s ∧ s ≤ r ∧ r ≤ hi ∧ Hid (s = lo ∨ ltOf cf d[n - s]! d[s - 1]! = false) ∧ Hid (r = hi ∨ ltOf cf d[n - 1 - r]! d[r]! = true) ∧ Aside (SW enc w0 blk off d wr)) (fun t20 t21 _ => (intOf t21).toNat - (intOf t20).toNat)
    case atStart => exact ⟨lo, hi, by first | rfl | rw [Hl0.out], by rw [Hh0.out], Nat.le_refl _, hlh, Nat.le_refl _, Lib.hid (.inl rfl), Lib.hid (.inl rfl), S0⟩
    case round =>
      clear S0
      obtain ⟨s, r, rfl, rfl, hls, hsr, hrh, Hlo, Hhi, S1⟩ := hrel
      by_cases hlt : s < r
      · have iij : (s : Int) < (r : Int) := by omega
        have hrd : r < d.size := by omega
        obtain ⟨h, hh⟩ : ∃ q, q = (s + r) / 2 := ⟨_, rfl⟩
        have w1 : IntKind.i64.wrap ((s : Int) + (r : Int)) = (s : Int) + (r : Int) := wrapOk (by omega) (by omega)
        have w2 : IntKind.u64.wrap ((s : Int) + (r : Int)) = (s : Int) + (r : Int) := wrapU (by omega) (by omega)
        have w3 : ((s : Int) + (r : Int)) / 2 = (h : Int) := by omega
        have h1h : s ≤ h ∧ h < r := by omega
        have zzh : (0 : Int) ≤ (h : Int) := by omega
        have zlh : (h : Int) < (d.size : Int) := by omega
        obtain ⟨pc, hpc⟩ : ∃ q, q = p - h := ⟨_, rfl⟩
        have e5 : (p : Int) - (h : Int) = (pc : Int) := by have := Hp.out; have := Hn.out; omega
        have zpc : (0 : Int) ≤ (pc : Int) := by omega
        have hpcd : pc < d.size := by have := Hp.out; have := Hn.out; omega
        have zlpc : (pc : Int) < (d.size : Int) := by omega
        have r6 : IntKind.i64.wrap (pc : Int) = (pc : Int) := by rw [IntKind.wrap_i64]; omega
        have r5 : IntKind.i64.wrap ((p : Int) - (h : Int)) = (pc : Int) := by rw [e5]; exact r6
        have HpA : Hid (pc = n - (h + 1) ∧ pc = n - 1 - h) := Lib.hid (by have := Hp.out; omega)
        clear hpc
        cases hlv : ltOf cf d[pc]! d[h]! with
        | true =>
          obtain ⟨x1, hx1⟩ : ∃ x, x = d[pc]! := ⟨_, rfl⟩
          obtain ⟨y1, hy1⟩ : ∃ x, x = d[h]! := ⟨_, rfl⟩
          have l1 := S1.out.cl HR.out Hs.out.symm (pc) (by omega)
          have l2 := S1.out.cl HR.out Hs.out.symm (h) (by omega)
          rw [← hx1] at l1
          rw [← hy1] at l2
          have hc1 := S1.out.cmp HC.out Hs.out.symm x1 y1
          have hv1 : cf x1 y1 < 0 := by rw [hx1, hy1]; exact of_decide_eq_true hlv
          have hd1 : decide (cf x1 y1 < 0) = true := decide_eq_true hv1
          have Hlv := Lib.hid hlv
          clear hh
          clear hx1 hy1 hlv
          go_wp2_with fail
          go_quiet_grown (first | (go_at_fn g; refine Calls.grown_of (hc1 _ _)))
          have S2 : Aside (SW enc w0 blk off d (grow (wr.drewN nq) osq)) := S1.out.grown nq osq
          clear l1 l2 hc1 S1
          generalize grow (wr.drewN nq) osq = w2 at S2 ⊢
          clear nq osq
          go_wp2_with fail
          go_roundw
          case rel => exact ⟨s, h, rfl, rfl, hls, by omega, by omega, Hlo, Lib.hid (.inr (by rw [← HpA.out.2]; exact Hlv.out)), S2⟩
          case measure => simp [intOf]; omega
        | false =>
          obtain ⟨x1, hx1⟩ : ∃ x, x = d[pc]! := ⟨_, rfl⟩
          obtain ⟨y1, hy1⟩ : ∃ x, x = d[h]! := ⟨_, rfl⟩
          have l1 := S1.out.cl HR.out Hs.out.symm (pc) (by omega)
          have l2 := S1.out.cl HR.out Hs.out.symm (h) (by omega)
          rw [← hx1] at l1
          rw [← hy1] at l2
          have hc1 := S1.out.cmp HC.out Hs.out.symm x1 y1
          have hv1 : ¬ cf x1 y1 < 0 := by rw [hx1, hy1]; exact of_decide_eq_false hlv
          have hd1 : decide (cf x1 y1 < 0) = false := decide_eq_false hv1
          have Hlv := Lib.hid hlv
          clear hh
          clear hx1 hy1 hlv
          go_wp2_with fail
          go_quiet_grown (first | (go_at_fn g; refine Calls.grown_of (hc1 _ _)))
          have S2 : Aside (SW enc w0 blk off d (grow (wr.drewN nq) osq)) := S1.out.grown nq osq
          clear l1 l2 hc1 S1
          generalize grow (wr.drewN nq) osq = w2 at S2 ⊢
          clear nq osq
          go_wp2_with fail
          go_roundw
          case rel => exact ⟨h + 1, r, by go_num, rfl, by omega, by omega, hrh, Lib.hid (.inr (by rw [Nat.add_sub_cancel, ← HpA.out.1]; exact Hlv.out)), Hhi, S2⟩
          case measure => simp [intOf]; omega
      · obtain rfl : s = r := by omega
        have iij : ¬ (s : Int) < (s : Int) := by omega
        obtain ⟨e, he⟩ : ∃ e, e = n - s := ⟨_, rfl⟩
        have e6 : (n : Int) - (s : Int) = (e : Int) := by have := Hn.out; omega
        have hS : a ≤ s ∧ s ≤ m ∧ s ≤ mid ∧ m ≤ e ∧ e ≤ b ∧ s + (e - m) = mid := by have := Hn.out; omega
        obtain ⟨h_as, h_sm, h_smid, h_me, h_eb, h_mid⟩ := hS
        have Hmid := Lib.hid h_mid
        have Hlo2 : Hid (s = a ∨ e = b ∨ ltOf cf d[e]! d[s - 1]! = false) := Lib.hid (by
          rcases Hlo.out with h | h
          · by_cases hc : m > mid
            · have := Hc1.out hc; have := Hn.out; exact .inr (.inl (by omega))
            · have := Hc2.out hc; exact .inl (by omega)
          · exact .inr (.inr (by rw [he]; exact h)))
        have Hhi2 : Hid (m = e ∨ s = m ∨ ltOf cf d[e - 1]! d[s]! = true) := Lib.hid (by
          rcases Hhi.out with h | h
          · by_cases hc : m > mid
            · have := Hc1.out hc; have := Hn.out; exact .inl (by omega)
            · have := Hc2.out hc; exact .inr (.inl (by omega))
          · exact .inr (.inr (by rw [he, show n - s - 1 = n - 1 - s by omega]; exact h)))
        have he3 : e ≤ mid + (m - s) ∧ mid + m = e + s := by have := Hn.out; omega
        have He3 := Lib.hid he3
        clear he h_mid he3
        by_cases r1 : s < m
        · have z1 : (s : Int) < (m : Int) := by omega
          by_cases r2 : m < e
          · have z2 : (m : Int) < (e : Int) := by omega
            have hr := rotate_s enc blk off cap s m e d0 d w0 wr (.func (.func g) #[] cb) HR.out Hs.out S1.out r1 r2 (by omega) hsz
            have Hro := Lib.hid hr
            clear hr
            go_wp2_with fail
            refine Calls.mono Hro.out ?_
            rintro e' w1 ⟨rfl, d1, hP, hrot, hW⟩
            have hP1 : PermIn a b d d1 := permIn_mono _ _ _ _ _ _ h_as h_eb hb hP
            have S1' : Aside _ := hW
            clear S1 hW hP Hro
            have S1 := S1'
            clear S1'
            have HP1 := Lib.hid hP1
            obtain ⟨k1, k2, k3, k4, -, k6⟩ := cutMerge HO.out Hs1.out Hs2.out h_as h_sm h_me h_eb Hmid.out hrot Hlo2.out Hhi2.out
            have K1 := Lib.hid k1
            have K2 := Lib.hid k2
            have K3' := Lib.hid k3
            have K4' := Lib.hid k4
            have Hx := Lib.hid k6
            have Hme2 : Hid (mid ≤ e) := Lib.hid (by have := Hmid.out; omega)
            have hd1 : d1.size = d.size := hP1.1
            clear k1 k2 k3 k4 k6 hP1 hrot
            by_cases c1 : a < s
            · have q1 : (a : Int) < (s : Int) := by omega
              by_cases c2 : s < mid
              · have q2 : (s : Int) < (mid : Int) := by omega
                have hsym := ih a s mid d1 w1 (by rw [hd1]; exact Hs.out) S1.out c1 c2 (by rw [hd1]; have := Hmb.out; omega) (by rw [hd1]; exact hsz) K1.out K2.out (by have := Hmb.out; omega)
                rw [hd1] at hsym
                have Hsym := Lib.hid hsym
                have Hd1 := Lib.hid hd1
                clear hsym hd1
                go_wp2_with fail
                refine Calls.mono Hsym.out ?_
                rintro e' w2 ⟨rfl, d2, hP2, hS2, hW2⟩
                have S2 : Aside _ := hW2
                have hd1 := Hd1.out
                clear S1 hW2 Hsym Hd1
                have HPL : Hid (PermIn a mid d1 d2) := Lib.hid hP2
                have HSL : Hid (SortedIn (ltOf cf) a mid d2) := Lib.hid hS2
                have K3 : Hid (SortedIn (ltOf cf) mid e d2) := Lib.hid (fun i j r1 r2 r3 => by rw [hP2.2.1 i (.inr r1), hP2.2.1 j (.inr (by omega))]; exact K3'.out i j r1 r2 r3)
                have K4 : Hid (SortedIn (ltOf cf) e b d2) := Lib.hid (fun i j r1 r2 r3 => by rw [hP2.2.1 i (.inr (by have := Hme2.out; omega)), hP2.2.1 j (.inr (by have := Hme2.out; omega))]; exact K4'.out i j r1 r2 r3)
                have hd2 : d2.size = d.size := by rw [hP2.1]; exact hd1
                clear hP2 hS2 hd1
                by_cases c3 : mid < e
                · have q3 : (mid : Int) < (e : Int) := by omega
                  by_cases c4 : e < b
                  · have q4 : (e : Int) < (b : Int) := by omega
                    have h3 : mid < e ∧ e < b := ⟨c3, c4⟩
                    have hsym := ih mid e b d2 w2 (by rw [hd2]; exact Hs.out) S2.out c3 c4 (by rw [hd2]; exact hb) (by rw [hd2]; exact hsz) K3.out K4.out (by have := Hmb.out; omega)
                    rw [hd2] at hsym
                    have Hsym := Lib.hid hsym
                    clear hsym hd2 h3
                    go_wp2_with fail
                    refine Calls.mono Hsym.out ?_
                    rintro e' w3 ⟨rfl, d3, hP3, hS3, hW3⟩
                    have hpost : SymPost enc (ltOf cf) w0 blk off a b d (.returned (.tuple #[])) w3 := ⟨rfl, d3, by
                      have k := mergeEnd HO.out (by have := Hmb.out; omega) (by have := Hmb.out; omega) (by rw [HP1.out.1]; exact hb) Hx.out HPL.out HSL.out hP3 hS3
                      exact ⟨permIn_trans _ _ _ _ _ HP1.out k.1, k.2, hW3⟩⟩
                    clear S2 hW3
                    have Hpost := Lib.hid hpost
                    clear hpost
                    go_wp2_with fail
                    go_end0
                    exact Hpost.out
                  · have q4 : ¬ (e : Int) < (b : Int) := by omega
                    have hpost : SymPost enc (ltOf cf) w0 blk off a b d (.returned (.tuple #[])) w2 := ⟨rfl, d2, by
                      have k := mergeEnd HO.out (by have := Hmb.out; omega) (by have := Hmb.out; omega) (by rw [HP1.out.1]; exact hb) Hx.out HPL.out HSL.out (permIn_refl _ _ _) (by rw [show b = e from by omega]; exact K3.out)
                      exact ⟨permIn_trans _ _ _ _ _ HP1.out k.1, k.2, S2.out⟩⟩
                    clear S2 hd2
                    have Hpost := Lib.hid hpost
                    clear hpost
                    go_wp2_with fail
                    go_end0
                    exact Hpost.out
                · have q3 : ¬ (mid : Int) < (e : Int) := by omega
                  have hpost : SymPost enc (ltOf cf) w0 blk off a b d (.returned (.tuple #[])) w2 := ⟨rfl, d2, by
                    have k := mergeEnd HO.out (by have := Hmb.out; omega) (by have := Hmb.out; omega) (by rw [HP1.out.1]; exact hb) Hx.out HPL.out HSL.out (permIn_refl _ _ _) (by rw [show mid = e from by have := Hme2.out; omega]; exact K4.out)
                    exact ⟨permIn_trans _ _ _ _ _ HP1.out k.1, k.2, S2.out⟩⟩
                  clear S2 hd2
                  have Hpost := Lib.hid hpost
                  clear hpost
                  go_wp2_with fail
                  go_end0
                  exact Hpost.out
              · have q2 : ¬ (s : Int) < (mid : Int) := by omega
                obtain ⟨d2, hd⟩ : ∃ x, x = d1 := ⟨_, rfl⟩
                obtain ⟨w2, hw⟩ : ∃ x, x = w1 := ⟨_, rfl⟩
                have hP2 : PermIn a mid d1 d2 := by rw [hd]; exact permIn_refl _ _ _
                have hS2 : SortedIn (ltOf cf) a mid d2 := by rw [hd]; exact (by rw [show mid = s from by omega]; exact K1.out)
                have S2 : Aside (SW enc w0 blk off d2 w2) := by rw [hd, hw]; exact S1
                rw [← hw]
                clear S1 hd hw
                have HPL : Hid (PermIn a mid d1 d2) := Lib.hid hP2
                have HSL : Hid (SortedIn (ltOf cf) a mid d2) := Lib.hid hS2
                have K3 : Hid (SortedIn (ltOf cf) mid e d2) := Lib.hid (fun i j r1 r2 r3 => by rw [hP2.2.1 i (.inr r1), hP2.2.1 j (.inr (by omega))]; exact K3'.out i j r1 r2 r3)
                have K4 : Hid (SortedIn (ltOf cf) e b d2) := Lib.hid (fun i j r1 r2 r3 => by rw [hP2.2.1 i (.inr (by have := Hme2.out; omega)), hP2.2.1 j (.inr (by have := Hme2.out; omega))]; exact K4'.out i j r1 r2 r3)
                have hd2 : d2.size = d.size := by rw [hP2.1]; exact hd1
                clear hP2 hS2 hd1
                by_cases c3 : mid < e
                · have q3 : (mid : Int) < (e : Int) := by omega
                  by_cases c4 : e < b
                  · have q4 : (e : Int) < (b : Int) := by omega
                    have h3 : mid < e ∧ e < b := ⟨c3, c4⟩
                    have hsym := ih mid e b d2 w2 (by rw [hd2]; exact Hs.out) S2.out c3 c4 (by rw [hd2]; exact hb) (by rw [hd2]; exact hsz) K3.out K4.out (by have := Hmb.out; omega)
                    rw [hd2] at hsym
                    have Hsym := Lib.hid hsym
                    clear hsym hd2 h3
                    go_wp2_with fail
                    refine Calls.mono Hsym.out ?_
                    rintro e' w3 ⟨rfl, d3, hP3, hS3, hW3⟩
                    have hpost : SymPost enc (ltOf cf) w0 blk off a b d (.returned (.tuple #[])) w3 := ⟨rfl, d3, by
                      have k := mergeEnd HO.out (by have := Hmb.out; omega) (by have := Hmb.out; omega) (by rw [HP1.out.1]; exact hb) Hx.out HPL.out HSL.out hP3 hS3
                      exact ⟨permIn_trans _ _ _ _ _ HP1.out k.1, k.2, hW3⟩⟩
                    clear S2 hW3
                    have Hpost := Lib.hid hpost
                    clear hpost
                    go_wp2_with fail
                    go_end0
                    exact Hpost.out
                  · have q4 : ¬ (e : Int) < (b : Int) := by omega
                    have hpost : SymPost enc (ltOf cf) w0 blk off a b d (.returned (.tuple #[])) w2 := ⟨rfl, d2, by
                      have k := mergeEnd HO.out (by have := Hmb.out; omega) (by have := Hmb.out; omega) (by rw [HP1.out.1]; exact hb) Hx.out HPL.out HSL.out (permIn_refl _ _ _) (by rw [show b = e from by omega]; exact K3.out)
                      exact ⟨permIn_trans _ _ _ _ _ HP1.out k.1, k.2, S2.out⟩⟩
                    clear S2 hd2
                    have Hpost := Lib.hid hpost
                    clear hpost
                    go_wp2_with fail
                    go_end0
                    exact Hpost.out
                · have q3 : ¬ (mid : Int) < (e : Int) := by omega
                  have hpost : SymPost enc (ltOf cf) w0 blk off a b d (.returned (.tuple #[])) w2 := ⟨rfl, d2, by
                    have k := mergeEnd HO.out (by have := Hmb.out; omega) (by have := Hmb.out; omega) (by rw [HP1.out.1]; exact hb) Hx.out HPL.out HSL.out (permIn_refl _ _ _) (by rw [show mid = e from by have := Hme2.out; omega]; exact K4.out)
                    exact ⟨permIn_trans _ _ _ _ _ HP1.out k.1, k.2, S2.out⟩⟩
                  clear S2 hd2
                  have Hpost := Lib.hid hpost
                  clear hpost
                  go_wp2_with fail
                  go_end0
                  exact Hpost.out
            · have q1 : ¬ (a : Int) < (s : Int) := by omega
              obtain ⟨d2, hd⟩ : ∃ x, x = d1 := ⟨_, rfl⟩
              obtain ⟨w2, hw⟩ : ∃ x, x = w1 := ⟨_, rfl⟩
              have hP2 : PermIn a mid d1 d2 := by rw [hd]; exact permIn_refl _ _ _
              have hS2 : SortedIn (ltOf cf) a mid d2 := by rw [hd]; exact (by rw [show a = s from by omega]; exact K2.out)
              have S2 : Aside (SW enc w0 blk off d2 w2) := by rw [hd, hw]; exact S1
              rw [← hw]
              clear S1 hd hw
              have HPL : Hid (PermIn a mid d1 d2) := Lib.hid hP2
              have HSL : Hid (SortedIn (ltOf cf) a mid d2) := Lib.hid hS2
              have K3 : Hid (SortedIn (ltOf cf) mid e d2) := Lib.hid (fun i j r1 r2 r3 => by rw [hP2.2.1 i (.inr r1), hP2.2.1 j (.inr (by omega))]; exact K3'.out i j r1 r2 r3)
              have K4 : Hid (SortedIn (ltOf cf) e b d2) := Lib.hid (fun i j r1 r2 r3 => by rw [hP2.2.1 i (.inr (by have := Hme2.out; omega)), hP2.2.1 j (.inr (by have := Hme2.out; omega))]; exact K4'.out i j r1 r2 r3)
              have hd2 : d2.size = d.size := by rw [hP2.1]; exact hd1
              clear hP2 hS2 hd1
              by_cases c3 : mid < e
              · have q3 : (mid : Int) < (e : Int) := by omega
                by_cases c4 : e < b
                · have q4 : (e : Int) < (b : Int) := by omega
                  have h3 : mid < e ∧ e < b := ⟨c3, c4⟩
                  have hsym := ih mid e b d2 w2 (by rw [hd2]; exact Hs.out) S2.out c3 c4 (by rw [hd2]; exact hb) (by rw [hd2]; exact hsz) K3.out K4.out (by have := Hmb.out; omega)
                  rw [hd2] at hsym
                  have Hsym := Lib.hid hsym
                  clear hsym hd2 h3
                  go_wp2_with fail
                  refine Calls.mono Hsym.out ?_
                  rintro e' w3 ⟨rfl, d3, hP3, hS3, hW3⟩
                  have hpost : SymPost enc (ltOf cf) w0 blk off a b d (.returned (.tuple #[])) w3 := ⟨rfl, d3, by
                    have k := mergeEnd HO.out (by have := Hmb.out; omega) (by have := Hmb.out; omega) (by rw [HP1.out.1]; exact hb) Hx.out HPL.out HSL.out hP3 hS3
                    exact ⟨permIn_trans _ _ _ _ _ HP1.out k.1, k.2, hW3⟩⟩
                  clear S2 hW3
                  have Hpost := Lib.hid hpost
                  clear hpost
                  go_wp2_with fail
                  go_end0
                  exact Hpost.out
                · have q4 : ¬ (e : Int) < (b : Int) := by omega
                  have hpost : SymPost enc (ltOf cf) w0 blk off a b d (.returned (.tuple #[])) w2 := ⟨rfl, d2, by
                    have k := mergeEnd HO.out (by have := Hmb.out; omega) (by have := Hmb.out; omega) (by rw [HP1.out.1]; exact hb) Hx.out HPL.out HSL.out (permIn_refl _ _ _) (by rw [show b = e from by omega]; exact K3.out)
                    exact ⟨permIn_trans _ _ _ _ _ HP1.out k.1, k.2, S2.out⟩⟩
                  clear S2 hd2
                  have Hpost := Lib.hid hpost
                  clear hpost
                  go_wp2_with fail
                  go_end0
                  exact Hpost.out
              · have q3 : ¬ (mid : Int) < (e : Int) := by omega
                have hpost : SymPost enc (ltOf cf) w0 blk off a b d (.returned (.tuple #[])) w2 := ⟨rfl, d2, by
                  have k := mergeEnd HO.out (by have := Hmb.out; omega) (by have := Hmb.out; omega) (by rw [HP1.out.1]; exact hb) Hx.out HPL.out HSL.out (permIn_refl _ _ _) (by rw [show mid = e from by have := Hme2.out; omega]; exact K4.out)
                  exact ⟨permIn_trans _ _ _ _ _ HP1.out k.1, k.2, S2.out⟩⟩
                clear S2 hd2
                have Hpost := Lib.hid hpost
                clear hpost
                go_wp2_with fail
                go_end0
                exact Hpost.out
          · have z2 : ¬ (m : Int) < (e : Int) := by omega
            obtain ⟨d1, hd⟩ : ∃ x, x = d := ⟨_, rfl⟩
            obtain ⟨w1, hw⟩ : ∃ x, x = wr := ⟨_, rfl⟩
            have hP1 : PermIn a b d d1 := by rw [hd]; exact permIn_refl _ _ _
            have hrot : Rot s m e d d1 := by rw [hd]; exact (by rw [show e = m from by omega]; exact Rot.none2 d s m h_sm)
            have S1' : Aside (SW enc w0 blk off d1 w1) := by rw [hd, hw]; exact S1
            rw [← hw]
            clear S1 hd hw
            have S1 := S1'
            clear S1'
            have HP1 := Lib.hid hP1
            obtain ⟨k1, k2, k3, k4, -, k6⟩ := cutMerge HO.out Hs1.out Hs2.out h_as h_sm h_me h_eb Hmid.out hrot Hlo2.out Hhi2.out
            have K1 := Lib.hid k1
            have K2 := Lib.hid k2
            have K3' := Lib.hid k3
            have K4' := Lib.hid k4
            have Hx := Lib.hid k6
            have Hme2 : Hid (mid ≤ e) := Lib.hid (by have := Hmid.out; omega)
            have hd1 : d1.size = d.size := hP1.1
            clear k1 k2 k3 k4 k6 hP1 hrot
            by_cases c1 : a < s
            · have q1 : (a : Int) < (s : Int) := by omega
              by_cases c2 : s < mid
              · have q2 : (s : Int) < (mid : Int) := by omega
                have hsym := ih a s mid d1 w1 (by rw [hd1]; exact Hs.out) S1.out c1 c2 (by rw [hd1]; have := Hmb.out; omega) (by rw [hd1]; exact hsz) K1.out K2.out (by have := Hmb.out; omega)
                rw [hd1] at hsym
                have Hsym := Lib.hid hsym
                have Hd1 := Lib.hid hd1
                clear hsym hd1
                go_wp2_with fail
                refine Calls.mono Hsym.out ?_
                rintro e' w2 ⟨rfl, d2, hP2, hS2, hW2⟩
                have S2 : Aside _ := hW2
                have hd1 := Hd1.out
                clear S1 hW2 Hsym Hd1
                have HPL : Hid (PermIn a mid d1 d2) := Lib.hid hP2
                have HSL : Hid (SortedIn (ltOf cf) a mid d2) := Lib.hid hS2
                have K3 : Hid (SortedIn (ltOf cf) mid e d2) := Lib.hid (fun i j r1 r2 r3 => by rw [hP2.2.1 i (.inr r1), hP2.2.1 j (.inr (by omega))]; exact K3'.out i j r1 r2 r3)
                have K4 : Hid (SortedIn (ltOf cf) e b d2) := Lib.hid (fun i j r1 r2 r3 => by rw [hP2.2.1 i (.inr (by have := Hme2.out; omega)), hP2.2.1 j (.inr (by have := Hme2.out; omega))]; exact K4'.out i j r1 r2 r3)
                have hd2 : d2.size = d.size := by rw [hP2.1]; exact hd1
                clear hP2 hS2 hd1
                by_cases c3 : mid < e
                · have q3 : (mid : Int) < (e : Int) := by omega
                  by_cases c4 : e < b
                  · have q4 : (e : Int) < (b : Int) := by omega
                    have h3 : mid < e ∧ e < b := ⟨c3, c4⟩
                    have hsym := ih mid e b d2 w2 (by rw [hd2]; exact Hs.out) S2.out c3 c4 (by rw [hd2]; exact hb) (by rw [hd2]; exact hsz) K3.out K4.out (by have := Hmb.out; omega)
                    rw [hd2] at hsym
                    have Hsym := Lib.hid hsym
                    clear hsym hd2 h3
                    go_wp2_with fail
                    refine Calls.mono Hsym.out ?_
                    rintro e' w3 ⟨rfl, d3, hP3, hS3, hW3⟩
                    have hpost : SymPost enc (ltOf cf) w0 blk off a b d (.returned (.tuple #[])) w3 := ⟨rfl, d3, by
                      have k := mergeEnd HO.out (by have := Hmb.out; omega) (by have := Hmb.out; omega) (by rw [HP1.out.1]; exact hb) Hx.out HPL.out HSL.out hP3 hS3
                      exact ⟨permIn_trans _ _ _ _ _ HP1.out k.1, k.2, hW3⟩⟩
                    clear S2 hW3
                    have Hpost := Lib.hid hpost
                    clear hpost
                    go_wp2_with fail
                    go_end0
                    exact Hpost.out
                  · have q4 : ¬ (e : Int) < (b : Int) := by omega
                    have hpost : SymPost enc (ltOf cf) w0 blk off a b d (.returned (.tuple #[])) w2 := ⟨rfl, d2, by
                      have k := mergeEnd HO.out (by have := Hmb.out; omega) (by have := Hmb.out; omega) (by rw [HP1.out.1]; exact hb) Hx.out HPL.out HSL.out (permIn_refl _ _ _) (by rw [show b = e from by omega]; exact K3.out)
                      exact ⟨permIn_trans _ _ _ _ _ HP1.out k.1, k.2, S2.out⟩⟩
                    clear S2 hd2
                    have Hpost := Lib.hid hpost
                    clear hpost
                    go_wp2_with fail
                    go_end0
                    exact Hpost.out
                · have q3 : ¬ (mid : Int) < (e : Int) := by omega
                  have hpost : SymPost enc (ltOf cf) w0 blk off a b d (.returned (.tuple #[])) w2 := ⟨rfl, d2, by
                    have k := mergeEnd HO.out (by have := Hmb.out; omega) (by have := Hmb.out; omega) (by rw [HP1.out.1]; exact hb) Hx.out HPL.out HSL.out (permIn_refl _ _ _) (by rw [show mid = e from by have := Hme2.out; omega]; exact K4.out)
                    exact ⟨permIn_trans _ _ _ _ _ HP1.out k.1, k.2, S2.out⟩⟩
                  clear S2 hd2
                  have Hpost := Lib.hid hpost
                  clear hpost
                  go_wp2_with fail
                  go_end0
                  exact Hpost.out
              · have q2 : ¬ (s : Int) < (mid : Int) := by omega
                obtain ⟨d2, hd⟩ : ∃ x, x = d1 := ⟨_, rfl⟩
                obtain ⟨w2, hw⟩ : ∃ x, x = w1 := ⟨_, rfl⟩
                have hP2 : PermIn a mid d1 d2 := by rw [hd]; exact permIn_refl _ _ _
                have hS2 : SortedIn (ltOf cf) a mid d2 := by rw [hd]; exact (by rw [show mid = s from by omega]; exact K1.out)
                have S2 : Aside (SW enc w0 blk off d2 w2) := by rw [hd, hw]; exact S1
                rw [← hw]
                clear S1 hd hw
                have HPL : Hid (PermIn a mid d1 d2) := Lib.hid hP2
                have HSL : Hid (SortedIn (ltOf cf) a mid d2) := Lib.hid hS2
                have K3 : Hid (SortedIn (ltOf cf) mid e d2) := Lib.hid (fun i j r1 r2 r3 => by rw [hP2.2.1 i (.inr r1), hP2.2.1 j (.inr (by omega))]; exact K3'.out i j r1 r2 r3)
                have K4 : Hid (SortedIn (ltOf cf) e b d2) := Lib.hid (fun i j r1 r2 r3 => by rw [hP2.2.1 i (.inr (by have := Hme2.out; omega)), hP2.2.1 j (.inr (by have := Hme2.out; omega))]; exact K4'.out i j r1 r2 r3)
                have hd2 : d2.size = d.size := by rw [hP2.1]; exact hd1
                clear hP2 hS2 hd1
                by_cases c3 : mid < e
                · have q3 : (mid : Int) < (e : Int) := by omega
                  by_cases c4 : e < b
                  · have q4 : (e : Int) < (b : Int) := by omega
                    have h3 : mid < e ∧ e < b := ⟨c3, c4⟩
                    have hsym := ih mid e b d2 w2 (by rw [hd2]; exact Hs.out) S2.out c3 c4 (by rw [hd2]; exact hb) (by rw [hd2]; exact hsz) K3.out K4.out (by have := Hmb.out; omega)
                    rw [hd2] at hsym
                    have Hsym := Lib.hid hsym
                    clear hsym hd2 h3
                    go_wp2_with fail
                    refine Calls.mono Hsym.out ?_
                    rintro e' w3 ⟨rfl, d3, hP3, hS3, hW3⟩
                    have hpost : SymPost enc (ltOf cf) w0 blk off a b d (.returned (.tuple #[])) w3 := ⟨rfl, d3, by
                      have k := mergeEnd HO.out (by have := Hmb.out; omega) (by have := Hmb.out; omega) (by rw [HP1.out.1]; exact hb) Hx.out HPL.out HSL.out hP3 hS3
                      exact ⟨permIn_trans _ _ _ _ _ HP1.out k.1, k.2, hW3⟩⟩
                    clear S2 hW3
                    have Hpost := Lib.hid hpost
                    clear hpost
                    go_wp2_with fail
                    go_end0
                    exact Hpost.out
                  · have q4 : ¬ (e : Int) < (b : Int) := by omega
                    have hpost : SymPost enc (ltOf cf) w0 blk off a b d (.returned (.tuple #[])) w2 := ⟨rfl, d2, by
                      have k := mergeEnd HO.out (by have := Hmb.out; omega) (by have := Hmb.out; omega) (by rw [HP1.out.1]; exact hb) Hx.out HPL.out HSL.out (permIn_refl _ _ _) (by rw [show b = e from by omega]; exact K3.out)
                      exact ⟨permIn_trans _ _ _ _ _ HP1.out k.1, k.2, S2.out⟩⟩
                    clear S2 hd2
                    have Hpost := Lib.hid hpost
                    clear hpost
                    go_wp2_with fail
                    go_end0
                    exact Hpost.out
                · have q3 : ¬ (mid : Int) < (e : Int) := by omega
                  have hpost : SymPost enc (ltOf cf) w0 blk off a b d (.returned (.tuple #[])) w2 := ⟨rfl, d2, by
                    have k := mergeEnd HO.out (by have := Hmb.out; omega) (by have := Hmb.out; omega) (by rw [HP1.out.1]; exact hb) Hx.out HPL.out HSL.out (permIn_refl _ _ _) (by rw [show mid = e from by have := Hme2.out; omega]; exact K4.out)
                    exact ⟨permIn_trans _ _ _ _ _ HP1.out k.1, k.2, S2.out⟩⟩
                  clear S2 hd2
                  have Hpost := Lib.hid hpost
                  clear hpost
                  go_wp2_with fail
                  go_end0
                  exact Hpost.out
            · have q1 : ¬ (a : Int) < (s : Int) := by omega
              obtain ⟨d2, hd⟩ : ∃ x, x = d1 := ⟨_, rfl⟩
              obtain ⟨w2, hw⟩ : ∃ x, x = w1 := ⟨_, rfl⟩
              have hP2 : PermIn a mid d1 d2 := by rw [hd]; exact permIn_refl _ _ _
              have hS2 : SortedIn (ltOf cf) a mid d2 := by rw [hd]; exact (by rw [show a = s from by omega]; exact K2.out)
              have S2 : Aside (SW enc w0 blk off d2 w2) := by rw [hd, hw]; exact S1
              rw [← hw]
              clear S1 hd hw
              have HPL : Hid (PermIn a mid d1 d2) := Lib.hid hP2
              have HSL : Hid (SortedIn (ltOf cf) a mid d2) := Lib.hid hS2
              have K3 : Hid (SortedIn (ltOf cf) mid e d2) := Lib.hid (fun i j r1 r2 r3 => by rw [hP2.2.1 i (.inr r1), hP2.2.1 j (.inr (by omega))]; exact K3'.out i j r1 r2 r3)
              have K4 : Hid (SortedIn (ltOf cf) e b d2) := Lib.hid (fun i j r1 r2 r3 => by rw [hP2.2.1 i (.inr (by have := Hme2.out; omega)), hP2.2.1 j (.inr (by have := Hme2.out; omega))]; exact K4'.out i j r1 r2 r3)
              have hd2 : d2.size = d.size := by rw [hP2.1]; exact hd1
              clear hP2 hS2 hd1
              by_cases c3 : mid < e
              · have q3 : (mid : Int) < (e : Int) := by omega
                by_cases c4 : e < b
                · have q4 : (e : Int) < (b : Int) := by omega
                  have h3 : mid < e ∧ e < b := ⟨c3, c4⟩
                  have hsym := ih mid e b d2 w2 (by rw [hd2]; exact Hs.out) S2.out c3 c4 (by rw [hd2]; exact hb) (by rw [hd2]; exact hsz) K3.out K4.out (by have := Hmb.out; omega)
                  rw [hd2] at hsym
                  have Hsym := Lib.hid hsym
                  clear hsym hd2 h3
                  go_wp2_with fail
                  refine Calls.mono Hsym.out ?_
                  rintro e' w3 ⟨rfl, d3, hP3, hS3, hW3⟩
                  have hpost : SymPost enc (ltOf cf) w0 blk off a b d (.returned (.tuple #[])) w3 := ⟨rfl, d3, by
                    have k := mergeEnd HO.out (by have := Hmb.out; omega) (by have := Hmb.out; omega) (by rw [HP1.out.1]; exact hb) Hx.out HPL.out HSL.out hP3 hS3
                    exact ⟨permIn_trans _ _ _ _ _ HP1.out k.1, k.2, hW3⟩⟩
                  clear S2 hW3
                  have Hpost := Lib.hid hpost
                  clear hpost
                  go_wp2_with fail
                  go_end0
                  exact Hpost.out
                · have q4 : ¬ (e : Int) < (b : Int) := by omega
                  have hpost : SymPost enc (ltOf cf) w0 blk off a b d (.returned (.tuple #[])) w2 := ⟨rfl, d2, by
                    have k := mergeEnd HO.out (by have := Hmb.out; omega) (by have := Hmb.out; omega) (by rw [HP1.out.1]; exact hb) Hx.out HPL.out HSL.out (permIn_refl _ _ _) (by rw [show b = e from by omega]; exact K3.out)
                    exact ⟨permIn_trans _ _ _ _ _ HP1.out k.1, k.2, S2.out⟩⟩
                  clear S2 hd2
                  have Hpost := Lib.hid hpost
                  clear hpost
                  go_wp2_with fail
                  go_end0
                  exact Hpost.out
              · have q3 : ¬ (mid : Int) < (e : Int) := by omega
                have hpost : SymPost enc (ltOf cf) w0 blk off a b d (.returned (.tuple #[])) w2 := ⟨rfl, d2, by
                  have k := mergeEnd HO.out (by have := Hmb.out; omega) (by have := Hmb.out; omega) (by rw [HP1.out.1]; exact hb) Hx.out HPL.out HSL.out (permIn_refl _ _ _) (by rw [show mid = e from by have := Hme2.out; omega]; exact K4.out)
                  exact ⟨permIn_trans _ _ _ _ _ HP1.out k.1, k.2, S2.out⟩⟩
                clear S2 hd2
                have Hpost := Lib.hid hpost
                clear hpost
                go_wp2_with fail
                go_end0
                exact Hpost.out
        · have z1 : ¬ (s : Int) < (m : Int) := by omega
          obtain ⟨d1, hd⟩ : ∃ x, x = d := ⟨_, rfl⟩
          obtain ⟨w1, hw⟩ : ∃ x, x = wr := ⟨_, rfl⟩
          have hP1 : PermIn a b d d1 := by rw [hd]; exact permIn_refl _ _ _
          have hrot : Rot s m e d d1 := by rw [hd]; exact (by rw [show s = m from by omega]; exact Rot.none1 d m e)
          have S1' : Aside (SW enc w0 blk off d1 w1) := by rw [hd, hw]; exact S1
          rw [← hw]
          clear S1 hd hw
          have S1 := S1'
          clear S1'
          have HP1 := Lib.hid hP1
          obtain ⟨k1, k2, k3, k4, -, k6⟩ := cutMerge HO.out Hs1.out Hs2.out h_as h_sm h_me h_eb Hmid.out hrot Hlo2.out Hhi2.out
          have K1 := Lib.hid k1
          have K2 := Lib.hid k2
          have K3' := Lib.hid k3
          have K4' := Lib.hid k4
          have Hx := Lib.hid k6
          have Hme2 : Hid (mid ≤ e) := Lib.hid (by have := Hmid.out; omega)
          have hd1 : d1.size = d.size := hP1.1
          clear k1 k2 k3 k4 k6 hP1 hrot
          by_cases c1 : a < s
          · have q1 : (a : Int) < (s : Int) := by omega
            by_cases c2 : s < mid
            · have q2 : (s : Int) < (mid : Int) := by omega
              have hsym := ih a s mid d1 w1 (by rw [hd1]; exact Hs.out) S1.out c1 c2 (by rw [hd1]; have := Hmb.out; omega) (by rw [hd1]; exact hsz) K1.out K2.out (by have := Hmb.out; omega)
              rw [hd1] at hsym
              have Hsym := Lib.hid hsym
              have Hd1 := Lib.hid hd1
              clear hsym hd1
              go_wp2_with fail
              refine Calls.mono Hsym.out ?_
              rintro e' w2 ⟨rfl, d2, hP2, hS2, hW2⟩
              have S2 : Aside _ := hW2
              have hd1 := Hd1.out
              clear S1 hW2 Hsym Hd1
              have HPL : Hid (PermIn a mid d1 d2) := Lib.hid hP2
              have HSL : Hid (SortedIn (ltOf cf) a mid d2) := Lib.hid hS2
              have K3 : Hid (SortedIn (ltOf cf) mid e d2) := Lib.hid (fun i j r1 r2 r3 => by rw [hP2.2.1 i (.inr r1), hP2.2.1 j (.inr (by omega))]; exact K3'.out i j r1 r2 r3)
              have K4 : Hid (SortedIn (ltOf cf) e b d2) := Lib.hid (fun i j r1 r2 r3 => by rw [hP2.2.1 i (.inr (by have := Hme2.out; omega)), hP2.2.1 j (.inr (by have := Hme2.out; omega))]; exact K4'.out i j r1 r2 r3)
              have hd2 : d2.size = d.size := by rw [hP2.1]; exact hd1
              clear hP2 hS2 hd1
              by_cases c3 : mid < e
              · have q3 : (mid : Int) < (e : Int) := by omega
                by_cases c4 : e < b
                · have q4 : (e : Int) < (b : Int) := by omega
                  have h3 : mid < e ∧ e < b := ⟨c3, c4⟩
                  have hsym := ih mid e b d2 w2 (by rw [hd2]; exact Hs.out) S2.out c3 c4 (by rw [hd2]; exact hb) (by rw [hd2]; exact hsz) K3.out K4.out (by have := Hmb.out; omega)
                  rw [hd2] at hsym
                  have Hsym := Lib.hid hsym
                  clear hsym hd2 h3
                  go_wp2_with fail
                  refine Calls.mono Hsym.out ?_
                  rintro e' w3 ⟨rfl, d3, hP3, hS3, hW3⟩
                  have hpost : SymPost enc (ltOf cf) w0 blk off a b d (.returned (.tuple #[])) w3 := ⟨rfl, d3, by
                    have k := mergeEnd HO.out (by have := Hmb.out; omega) (by have := Hmb.out; omega) (by rw [HP1.out.1]; exact hb) Hx.out HPL.out HSL.out hP3 hS3
                    exact ⟨permIn_trans _ _ _ _ _ HP1.out k.1, k.2, hW3⟩⟩
                  clear S2 hW3
                  have Hpost := Lib.hid hpost
                  clear hpost
                  go_wp2_with fail
                  go_end0
                  exact Hpost.out
                · have q4 : ¬ (e : Int) < (b : Int) := by omega
                  have hpost : SymPost enc (ltOf cf) w0 blk off a b d (.returned (.tuple #[])) w2 := ⟨rfl, d2, by
                    have k := mergeEnd HO.out (by have := Hmb.out; omega) (by have := Hmb.out; omega) (by rw [HP1.out.1]; exact hb) Hx.out HPL.out HSL.out (permIn_refl _ _ _) (by rw [show b = e from by omega]; exact K3.out)
                    exact ⟨permIn_trans _ _ _ _ _ HP1.out k.1, k.2, S2.out⟩⟩
                  clear S2 hd2
                  have Hpost := Lib.hid hpost
                  clear hpost
                  go_wp2_with fail
                  go_end0
                  exact Hpost.out
              · have q3 : ¬ (mid : Int) < (e : Int) := by omega
                have hpost : SymPost enc (ltOf cf) w0 blk off a b d (.returned (.tuple #[])) w2 := ⟨rfl, d2, by
                  have k := mergeEnd HO.out (by have := Hmb.out; omega) (by have := Hmb.out; omega) (by rw [HP1.out.1]; exact hb) Hx.out HPL.out HSL.out (permIn_refl _ _ _) (by rw [show mid = e from by have := Hme2.out; omega]; exact K4.out)
                  exact ⟨permIn_trans _ _ _ _ _ HP1.out k.1, k.2, S2.out⟩⟩
                clear S2 hd2
                have Hpost := Lib.hid hpost
                clear hpost
                go_wp2_with fail
                go_end0
                exact Hpost.out
            · have q2 : ¬ (s : Int) < (mid : Int) := by omega
              obtain ⟨d2, hd⟩ : ∃ x, x = d1 := ⟨_, rfl⟩
              obtain ⟨w2, hw⟩ : ∃ x, x = w1 := ⟨_, rfl⟩
              have hP2 : PermIn a mid d1 d2 := by rw [hd]; exact permIn_refl _ _ _
              have hS2 : SortedIn (ltOf cf) a mid d2 := by rw [hd]; exact (by rw [show mid = s from by omega]; exact K1.out)
              have S2 : Aside (SW enc w0 blk off d2 w2) := by rw [hd, hw]; exact S1
              rw [← hw]
              clear S1 hd hw
              have HPL : Hid (PermIn a mid d1 d2) := Lib.hid hP2
              have HSL : Hid (SortedIn (ltOf cf) a mid d2) := Lib.hid hS2
              have K3 : Hid (SortedIn (ltOf cf) mid e d2) := Lib.hid (fun i j r1 r2 r3 => by rw [hP2.2.1 i (.inr r1), hP2.2.1 j (.inr (by omega))]; exact K3'.out i j r1 r2 r3)
              have K4 : Hid (SortedIn (ltOf cf) e b d2) := Lib.hid (fun i j r1 r2 r3 => by rw [hP2.2.1 i (.inr (by have := Hme2.out; omega)), hP2.2.1 j (.inr (by have := Hme2.out; omega))]; exact K4'.out i j r1 r2 r3)
              have hd2 : d2.size = d.size := by rw [hP2.1]; exact hd1
              clear hP2 hS2 hd1
              by_cases c3 : mid < e
              · have q3 : (mid : Int) < (e : Int) := by omega
                by_cases c4 : e < b
                · have q4 : (e : Int) < (b : Int) := by omega
                  have h3 : mid < e ∧ e < b := ⟨c3, c4⟩
                  have hsym := ih mid e b d2 w2 (by rw [hd2]; exact Hs.out) S2.out c3 c4 (by rw [hd2]; exact hb) (by rw [hd2]; exact hsz) K3.out K4.out (by have := Hmb.out; omega)
                  rw [hd2] at hsym
                  have Hsym := Lib.hid hsym
                  clear hsym hd2 h3
                  go_wp2_with fail
                  refine Calls.mono Hsym.out ?_
                  rintro e' w3 ⟨rfl, d3, hP3, hS3, hW3⟩
                  have hpost : SymPost enc (ltOf cf) w0 blk off a b d (.returned (.tuple #[])) w3 := ⟨rfl, d3, by
                    have k := mergeEnd HO.out (by have := Hmb.out; omega) (by have := Hmb.out; omega) (by rw [HP1.out.1]; exact hb) Hx.out HPL.out HSL.out hP3 hS3
                    exact ⟨permIn_trans _ _ _ _ _ HP1.out k.1, k.2, hW3⟩⟩
                  clear S2 hW3
                  have Hpost := Lib.hid hpost
                  clear hpost
                  go_wp2_with fail
                  go_end0
                  exact Hpost.out
                · have q4 : ¬ (e : Int) < (b : Int) := by omega
                  have hpost : SymPost enc (ltOf cf) w0 blk off a b d (.returned (.tuple #[])) w2 := ⟨rfl, d2, by
                    have k := mergeEnd HO.out (by have := Hmb.out; omega) (by have := Hmb.out; omega) (by rw [HP1.out.1]; exact hb) Hx.out HPL.out HSL.out (permIn_refl _ _ _) (by rw [show b = e from by omega]; exact K3.out)
                    exact ⟨permIn_trans _ _ _ _ _ HP1.out k.1, k.2, S2.out⟩⟩
                  clear S2 hd2
                  have Hpost := Lib.hid hpost
                  clear hpost
                  go_wp2_with fail
                  go_end0
                  exact Hpost.out
              · have q3 : ¬ (mid : Int) < (e : Int) := by omega
                have hpost : SymPost enc (ltOf cf) w0 blk off a b d (.returned (.tuple #[])) w2 := ⟨rfl, d2, by
                  have k := mergeEnd HO.out (by have := Hmb.out; omega) (by have := Hmb.out; omega) (by rw [HP1.out.1]; exact hb) Hx.out HPL.out HSL.out (permIn_refl _ _ _) (by rw [show mid = e from by have := Hme2.out; omega]; exact K4.out)
                  exact ⟨permIn_trans _ _ _ _ _ HP1.out k.1, k.2, S2.out⟩⟩
                clear S2 hd2
                have Hpost := Lib.hid hpost
                clear hpost
                go_wp2_with fail
                go_end0
                exact Hpost.out
          · have q1 : ¬ (a : Int) < (s : Int) := by omega
            obtain ⟨d2, hd⟩ : ∃ x, x = d1 := ⟨_, rfl⟩
            obtain ⟨w2, hw⟩ : ∃ x, x = w1 := ⟨_, rfl⟩
            have hP2 : PermIn a mid d1 d2 := by rw [hd]; exact permIn_refl _ _ _
            have hS2 : SortedIn (ltOf cf) a mid d2 := by rw [hd]; exact (by rw [show a = s from by omega]; exact K2.out)
            have S2 : Aside (SW enc w0 blk off d2 w2) := by rw [hd, hw]; exact S1
            rw [← hw]
            clear S1 hd hw
            have HPL : Hid (PermIn a mid d1 d2) := Lib.hid hP2
            have HSL : Hid (SortedIn (ltOf cf) a mid d2) := Lib.hid hS2
            have K3 : Hid (SortedIn (ltOf cf) mid e d2) := Lib.hid (fun i j r1 r2 r3 => by rw [hP2.2.1 i (.inr r1), hP2.2.1 j (.inr (by omega))]; exact K3'.out i j r1 r2 r3)
            have K4 : Hid (SortedIn (ltOf cf) e b d2) := Lib.hid (fun i j r1 r2 r3 => by rw [hP2.2.1 i (.inr (by have := Hme2.out; omega)), hP2.2.1 j (.inr (by have := Hme2.out; omega))]; exact K4'.out i j r1 r2 r3)
            have hd2 : d2.size = d.size := by rw [hP2.1]; exact hd1
            clear hP2 hS2 hd1
            by_cases c3 : mid < e
            · have q3 : (mid : Int) < (e : Int) := by omega
              by_cases c4 : e < b
              · have q4 : (e : Int) < (b : Int) := by omega
                have h3 : mid < e ∧ e < b := ⟨c3, c4⟩
                have hsym := ih mid e b d2 w2 (by rw [hd2]; exact Hs.out) S2.out c3 c4 (by rw [hd2]; exact hb) (by rw [hd2]; exact hsz) K3.out K4.out (by have := Hmb.out; omega)
                rw [hd2] at hsym
                have Hsym := Lib.hid hsym
                clear hsym hd2 h3
                go_wp2_with fail
                refine Calls.mono Hsym.out ?_
                rintro e' w3 ⟨rfl, d3, hP3, hS3, hW3⟩
                have hpost : SymPost enc (ltOf cf) w0 blk off a b d (.returned (.tuple #[])) w3 := ⟨rfl, d3, by
                  have k := mergeEnd HO.out (by have := Hmb.out; omega) (by have := Hmb.out; omega) (by rw [HP1.out.1]; exact hb) Hx.out HPL.out HSL.out hP3 hS3
                  exact ⟨permIn_trans _ _ _ _ _ HP1.out k.1, k.2, hW3⟩⟩
                clear S2 hW3
                have Hpost := Lib.hid hpost
                clear hpost
                go_wp2_with fail
                go_end0
                exact Hpost.out
              · have q4 : ¬ (e : Int) < (b : Int) := by omega
                have hpost : SymPost enc (ltOf cf) w0 blk off a b d (.returned (.tuple #[])) w2 := ⟨rfl, d2, by
                  have k := mergeEnd HO.out (by have := Hmb.out; omega) (by have := Hmb.out; omega) (by rw [HP1.out.1]; exact hb) Hx.out HPL.out HSL.out (permIn_refl _ _ _) (by rw [show b = e from by omega]; exact K3.out)
                  exact ⟨permIn_trans _ _ _ _ _ HP1.out k.1, k.2, S2.out⟩⟩
                clear S2 hd2
                have Hpost := Lib.hid hpost
                clear hpost
                go_wp2_with fail
                go_end0
                exact Hpost.out
            · have q3 : ¬ (mid : Int) < (e : Int) := by omega
              have hpost : SymPost enc (ltOf cf) w0 blk off a b d (.returned (.tuple #[])) w2 := ⟨rfl, d2, by
                have k := mergeEnd HO.out (by have := Hmb.out; omega) (by have := Hmb.out; omega) (by rw [HP1.out.1]; exact hb) Hx.out HPL.out HSL.out (permIn_refl _ _ _) (by rw [show mid = e from by have := Hme2.out; omega]; exact K4.out)
                exact ⟨permIn_trans _ _ _ _ _ HP1.out k.1, k.2, S2.out⟩⟩
              clear S2 hd2
              have Hpost := Lib.hid hpost
              clear hpost
              go_wp2_with fail
              go_end0
              exact Hpost.out
  · have hc := Hc2.out hm
    obtain ⟨hl0, hh0⟩ := hc
    have g2 : ¬ (mid : Int) < (m : Int) := by omega
    have Hh0 := Lib.hid hh0
    have Hl0 := Lib.hid hl0
    clear hl0 hh0
    clear hm hm1 hm2
    go_enter Try.func133, Try.ntmps133
    go_wp2_with fail
    clear e1 e2 g0 g1 e3 e4 g2
    go_loopw [20, 21] (fun t20 t21 wr => ∃ (s r : Nat), t20 = .int .i64 s ∧ t21 = .int .i64 r ∧ lo ≤ s ∧ s ≤ r ∧ r ≤ hi ∧ Hid (s = lo ∨ ltOf cf d[n - s]! d[s - 1]! = false) ∧ Hid (r = hi ∨ ltOf cf d[n - 1 - r]! d[r]! = true) ∧ Aside (SW enc w0 blk off d wr)) (fun t20 t21 _ => (intOf t21).toNat - (intOf t20).toNat)
    case atStart => exact ⟨lo, hi, by first | rfl | rw [Hl0.out], by rw [Hh0.out], Nat.le_refl _, hlh, Nat.le_refl _, Lib.hid (.inl rfl), Lib.hid (.inl rfl), S0⟩
    case round =>
      clear S0
      obtain ⟨s, r, rfl, rfl, hls, hsr, hrh, Hlo, Hhi, S1⟩ := hrel
      by_cases hlt : s < r
      · have iij : (s : Int) < (r : Int) := by omega
        have hrd : r < d.size := by omega
        obtain ⟨h, hh⟩ : ∃ q, q = (s + r) / 2 := ⟨_, rfl⟩
        have w1 : IntKind.i64.wrap ((s : Int) + (r : Int)) = (s : Int) + (r : Int) := wrapOk (by omega) (by omega)
        have w2 : IntKind.u64.wrap ((s : Int) + (r : Int)) = (s : Int) + (r : Int) := wrapU (by omega) (by omega)
        have w3 : ((s : Int) + (r : Int)) / 2 = (h : Int) := by omega
        have h1h : s ≤ h ∧ h < r := by omega
        have zzh : (0 : Int) ≤ (h : Int) := by omega
        have zlh : (h : Int) < (d.size : Int) := by omega
        obtain ⟨pc, hpc⟩ : ∃ q, q = p - h := ⟨_, rfl⟩
        have e5 : (p : Int) - (h : Int) = (pc : Int) := by have := Hp.out; have := Hn.out; omega
        have zpc : (0 : Int) ≤ (pc : Int) := by omega
        have hpcd : pc < d.size := by have := Hp.out; have := Hn.out; omega
        have zlpc : (pc : Int) < (d.size : Int) := by omega
        have r6 : IntKind.i64.wrap (pc : Int) = (pc : Int) := by rw [IntKind.wrap_i64]; omega
        have r5 : IntKind.i64.wrap ((p : Int) - (h : Int)) = (pc : Int) := by rw [e5]; exact r6
        have HpA : Hid (pc = n - (h + 1) ∧ pc = n - 1 - h) := Lib.hid (by have := Hp.out; omega)
        clear hpc
        cases hlv : ltOf cf d[pc]! d[h]! with
        | true =>
          obtain ⟨x1, hx1⟩ : ∃ x, x = d[pc]! := ⟨_, rfl⟩
          obtain ⟨y1, hy1⟩ : ∃ x, x = d[h]! := ⟨_, rfl⟩
          have l1 := S1.out.cl HR.out Hs.out.symm (pc) (by omega)
          have l2 := S1.out.cl HR.out Hs.out.symm (h) (by omega)
          rw [← hx1] at l1
          rw [← hy1] at l2
          have hc1 := S1.out.cmp HC.out Hs.out.symm x1 y1
          have hv1 : cf x1 y1 < 0 := by rw [hx1, hy1]; exact of_decide_eq_true hlv
          have hd1 : decide (cf x1 y1 < 0) = true := decide_eq_true hv1
          have Hlv := Lib.hid hlv
          clear hh
          clear hx1 hy1 hlv
          go_wp2_with fail
          go_quiet_grown (first | (go_at_fn g; refine Calls.grown_of (hc1 _ _)))
          have S2 : Aside (SW enc w0 blk off d (grow (wr.drewN nq) osq)) := S1.out.grown nq osq
          clear l1 l2 hc1 S1
          generalize grow (wr.drewN nq) osq = w2 at S2 ⊢
          clear nq osq
          go_wp2_with fail
          go_roundw
          case rel => exact ⟨s, h, rfl, rfl, hls, by omega, by omega, Hlo, Lib.hid (.inr (by rw [← HpA.out.2]; exact Hlv.out)), S2⟩
          case measure => simp [intOf]; omega
        | false =>
          obtain ⟨x1, hx1⟩ : ∃ x, x = d[pc]! := ⟨_, rfl⟩
          obtain ⟨y1, hy1⟩ : ∃ x, x = d[h]! := ⟨_, rfl⟩
          have l1 := S1.out.cl HR.out Hs.out.symm (pc) (by omega)
          have l2 := S1.out.cl HR.out Hs.out.symm (h) (by omega)
          rw [← hx1] at l1
          rw [← hy1] at l2
          have hc1 := S1.out.cmp HC.out Hs.out.symm x1 y1
          have hv1 : ¬ cf x1 y1 < 0 := by rw [hx1, hy1]; exact of_decide_eq_false hlv
          have hd1 : decide (cf x1 y1 < 0) = false := decide_eq_false hv1
          have Hlv := Lib.hid hlv
          clear hh
          clear hx1 hy1 hlv
          go_wp2_with fail
          go_quiet_grown (first | (go_at_fn g; refine Calls.grown_of (hc1 _ _)))
          have S2 : Aside (SW enc w0 blk off d (grow (wr.drewN nq) osq)) := S1.out.grown nq osq
          clear l1 l2 hc1 S1
          generalize grow (wr.drewN nq) osq = w2 at S2 ⊢
          clear nq osq
          go_wp2_with fail
          go_roundw
          case rel => exact ⟨h + 1, r, by go_num, rfl, by omega, by omega, hrh, Lib.hid (.inr (by rw [Nat.add_sub_cancel, ← HpA.out.1]; exact Hlv.out)), Hhi, S2⟩
          case measure => simp [intOf]; omega
      · obtain rfl : s = r := by omega
        have iij : ¬ (s : Int) < (s : Int) := by omega
        obtain ⟨e, he⟩ : ∃ e, e = n - s := ⟨_, rfl⟩
        have e6 : (n : Int) - (s : Int) = (e : Int) := by have := Hn.out; omega
        have hS : a ≤ s ∧ s ≤ m ∧ s ≤ mid ∧ m ≤ e ∧ e ≤ b ∧ s + (e - m) = mid := by have := Hn.out; omega
        obtain ⟨h_as, h_sm, h_smid, h_me, h_eb, h_mid⟩ := hS
        have Hmid := Lib.hid h_mid
        have Hlo2 : Hid (s = a ∨ e = b ∨ ltOf cf d[e]! d[s - 1]! = false) := Lib.hid (by
          rcases Hlo.out with h | h
          · by_cases hc : m > mid
            · have := Hc1.out hc; have := Hn.out; exact .inr (.inl (by omega))
            · have := Hc2.out hc; exact .inl (by omega)
          · exact .inr (.inr (by rw [he]; exact h)))
        have Hhi2 : Hid (m = e ∨ s = m ∨ ltOf cf d[e - 1]! d[s]! = true) := Lib.hid (by
          rcases Hhi.out with h | h
          · by_cases hc : m > mid
            · have := Hc1.out hc; have := Hn.out; exact .inl (by omega)
            · have := Hc2.out hc; exact .inr (.inl (by omega))
          · exact .inr (.inr (by rw [he, show n - s - 1 = n - 1 - s by omega]; exact h)))
        have he3 : e ≤ mid + (m - s) ∧ mid + m = e + s := by have := Hn.out; omega
        have He3 := Lib.hid he3
        clear he h_mid he3
        by_cases r1 : s < m
        · have z1 : (s : Int) < (m : Int) := by omega
          by_cases r2 : m < e
          · have z2 : (m : Int) < (e : Int) := by omega
            have hr := rotate_s enc blk off cap s m e d0 d w0 wr (.func (.func g) #[] cb) HR.out Hs.out S1.out r1 r2 (by omega) hsz
            have Hro := Lib.hid hr
            clear hr
            go_wp2_with fail
            refine Calls.mono Hro.out ?_
            rintro e' w1 ⟨rfl, d1, hP, hrot, hW⟩
            have hP1 : PermIn a b d d1 := permIn_mono _ _ _ _ _ _ h_as h_eb hb hP
            have S1' : Aside _ := hW
            clear S1 hW hP Hro
            have S1 := S1'
            clear S1'
            have HP1 := Lib.hid hP1
            obtain ⟨k1, k2, k3, k4, -, k6⟩ := cutMerge HO.out Hs1.out Hs2.out h_as h_sm h_me h_eb Hmid.out hrot Hlo2.out Hhi2.out
            have K1 := Lib.hid k1
            have K2 := Lib.hid k2
            have K3' := Lib.hid k3
            have K4' := Lib.hid k4
            have Hx := Lib.hid k6
            have Hme2 : Hid (mid ≤ e) := Lib.hid (by have := Hmid.out; omega)
            have hd1 : d1.size = d.size := hP1.1
            clear k1 k2 k3 k4 k6 hP1 hrot
            by_cases c1 : a < s
            · have q1 : (a : Int) < (s : Int) := by omega
              by_cases c2 : s < mid
              · have q2 : (s : Int) < (mid : Int) := by omega
                have hsym := ih a s mid d1 w1 (by rw [hd1]; exact Hs.out) S1.out c1 c2 (by rw [hd1]; have := Hmb.out; omega) (by rw [hd1]; exact hsz) K1.out K2.out (by have := Hmb.out; omega)
                rw [hd1] at hsym
                have Hsym := Lib.hid hsym
                have Hd1 := Lib.hid hd1
                clear hsym hd1
                go_wp2_with fail
                refine Calls.mono Hsym.out ?_
                rintro e' w2 ⟨rfl, d2, hP2, hS2, hW2⟩
                have S2 : Aside _ := hW2
                have hd1 := Hd1.out
                clear S1 hW2 Hsym Hd1
                have HPL : Hid (PermIn a mid d1 d2) := Lib.hid hP2
                have HSL : Hid (SortedIn (ltOf cf) a mid d2) := Lib.hid hS2
                have K3 : Hid (SortedIn (ltOf cf) mid e d2) := Lib.hid (fun i j r1 r2 r3 => by rw [hP2.2.1 i (.inr r1), hP2.2.1 j (.inr (by omega))]; exact K3'.out i j r1 r2 r3)
                have K4 : Hid (SortedIn (ltOf cf) e b d2) := Lib.hid (fun i j r1 r2 r3 => by rw [hP2.2.1 i (.inr (by have := Hme2.out; omega)), hP2.2.1 j (.inr (by have := Hme2.out; omega))]; exact K4'.out i j r1 r2 r3)
                have hd2 : d2.size = d.size := by rw [hP2.1]; exact hd1
                clear hP2 hS2 hd1
                by_cases c3 : mid < e
                · have q3 : (mid : Int) < (e : Int) := by omega
                  by_cases c4 : e < b
                  · have q4 : (e : Int) < (b : Int) := by omega
                    have h3 : mid < e ∧ e < b := ⟨c3, c4⟩
                    have hsym := ih mid e b d2 w2 (by rw [hd2]; exact Hs.out) S2.out c3 c4 (by rw [hd2]; exact hb) (by rw [hd2]; exact hsz) K3.out K4.out (by have := Hmb.out; omega)
                    rw [hd2] at hsym
                    have Hsym := Lib.hid hsym
                    clear hsym hd2 h3
                    go_wp2_with fail
                    refine Calls.mono Hsym.out ?_
                    rintro e' w3 ⟨rfl, d3, hP3, hS3, hW3⟩
                    have hpost : SymPost enc (ltOf cf) w0 blk off a b d (.returned (.tuple #[])) w3 := ⟨rfl, d3, by
                      have k := mergeEnd HO.out (by have := Hmb.out; omega) (by have := Hmb.out; omega) (by rw [HP1.out.1]; exact hb) Hx.out HPL.out HSL.out hP3 hS3
                      exact ⟨permIn_trans _ _ _ _ _ HP1.out k.1, k.2, hW3⟩⟩
                    clear S2 hW3
                    have Hpost := Lib.hid hpost
                    clear hpost
                    go_wp2_with fail
                    go_end0
                    exact Hpost.out
                  · have q4 : ¬ (e : Int) < (b : Int) := by omega
                    have hpost : SymPost enc (ltOf cf) w0 blk off a b d (.returned (.tuple #[])) w2 := ⟨rfl, d2, by
                      have k := mergeEnd HO.out (by have := Hmb.out; omega) (by have := Hmb.out; omega) (by rw [HP1.out.1]; exact hb) Hx.out HPL.out HSL.out (permIn_refl _ _ _) (by rw [show b = e from by omega]; exact K3.out)
                      exact ⟨permIn_trans _ _ _ _ _ HP1.out k.1, k.2, S2.out⟩⟩
                    clear S2 hd2
                    have Hpost := Lib.hid hpost
                    clear hpost
                    go_wp2_with fail
                    go_end0
                    exact Hpost.out
                · have q3 : ¬ (mid : Int) < (e : Int) := by omega
                  have hpost : SymPost enc (ltOf cf) w0 blk off a b d (.returned (.tuple #[])) w2 := ⟨rfl, d2, by
                    have k := mergeEnd HO.out (by have := Hmb.out; omega) (by have := Hmb.out; omega) (by rw [HP1.out.1]; exact hb) Hx.out HPL.out HSL.out (permIn_refl _ _ _) (by rw [show mid = e from by have := Hme2.out; omega]; exact K4.out)
                    exact ⟨permIn_trans _ _ _ _ _ HP1.out k.1, k.2, S2.out⟩⟩
                  clear S2 hd2
                  have Hpost := Lib.hid hpost
                  clear hpost
                  go_wp2_with fail
                  go_end0
                  exact Hpost.out
              · have q2 : ¬ (s : Int) < (mid : Int) := by omega
                obtain ⟨d2, hd⟩ : ∃ x, x = d1 := ⟨_, rfl⟩
                obtain ⟨w2, hw⟩ : ∃ x, x = w1 := ⟨_, rfl⟩
                have hP2 : PermIn a mid d1 d2 := by rw [hd]; exact permIn_refl _ _ _
                have hS2 : SortedIn (ltOf cf) a mid d2 := by rw [hd]; exact (by rw [show mid = s from by omega]; exact K1.out)
                have S2 : Aside (SW enc w0 blk off d2 w2) := by rw [hd, hw]; exact S1
                rw [← hw]
                clear S1 hd hw
                have HPL : Hid (PermIn a mid d1 d2) := Lib.hid hP2
                have HSL : Hid (SortedIn (ltOf cf) a mid d2) := Lib.hid hS2
                have K3 : Hid (SortedIn (ltOf cf) mid e d2) := Lib.hid (fun i j r1 r2 r3 => by rw [hP2.2.1 i (.inr r1), hP2.2.1 j (.inr (by omega))]; exact K3'.out i j r1 r2 r3)
                have K4 : Hid (SortedIn (ltOf cf) e b d2) := Lib.hid (fun i j r1 r2 r3 => by rw [hP2.2.1 i (.inr (by have := Hme2.out; omega)), hP2.2.1 j (.inr (by have := Hme2.out; omega))]; exact K4'.out i j r1 r2 r3)
                have hd2 : d2.size = d.size := by rw [hP2.1]; exact hd1
                clear hP2 hS2 hd1
                by_cases c3 : mid < e
                · have q3 : (mid : Int) < (e : Int) := by omega
                  by_cases c4 : e < b
                  · have q4 : (e : Int) < (b : Int) := by omega
                    have h3 : mid < e ∧ e < b := ⟨c3, c4⟩
                    have hsym := ih mid e b d2 w2 (by rw [hd2]; exact Hs.out) S2.out c3 c4 (by rw [hd2]; exact hb) (by rw [hd2]; exact hsz) K3.out K4.out (by have := Hmb.out; omega)
                    rw [hd2] at hsym
                    have Hsym := Lib.hid hsym
                    clear hsym hd2 h3
                    go_wp2_with fail
                    refine Calls.mono Hsym.out ?_
                    rintro e' w3 ⟨rfl, d3, hP3, hS3, hW3⟩
                    have hpost : SymPost enc (ltOf cf) w0 blk off a b d (.returned (.tuple #[])) w3 := ⟨rfl, d3, by
                      have k := mergeEnd HO.out (by have := Hmb.out; omega) (by have := Hmb.out; omega) (by rw [HP1.out.1]; exact hb) Hx.out HPL.out HSL.out hP3 hS3
                      exact ⟨permIn_trans _ _ _ _ _ HP1.out k.1, k.2, hW3⟩⟩
                    clear S2 hW3
                    have Hpost := Lib.hid hpost
                    clear hpost
                    go_wp2_with fail
                    go_end0
                    exact Hpost.out
                  · have q4 : ¬ (e : Int) < (b : Int) := by omega
                    have hpost : SymPost enc (ltOf cf) w0 blk off a b d (.returned (.tuple #[])) w2 := ⟨rfl, d2, by
                      have k := mergeEnd HO.out (by have := Hmb.out; omega) (by have := Hmb.out; omega) (by rw [HP1.out.1]; exact hb) Hx.out HPL.out HSL.out (permIn_refl _ _ _) (by rw [show b = e from by omega]; exact K3.out)
                      exact ⟨permIn_trans _ _ _ _ _ HP1.out k.1, k.2, S2.out⟩⟩
                    clear S2 hd2
                    have Hpost := Lib.hid hpost
                    clear hpost
                    go_wp2_with fail
                    go_end0
                    exact Hpost.out
                · have q3 : ¬ (mid : Int) < (e : Int) := by omega
                  have hpost : SymPost enc (ltOf cf) w0 blk off a b d (.returned (.tuple #[])) w2 := ⟨rfl, d2, by
                    have k := mergeEnd HO.out (by have := Hmb.out; omega) (by have := Hmb.out; omega) (by rw [HP1.out.1]; exact hb) Hx.out HPL.out HSL.out (permIn_refl _ _ _) (by rw [show mid = e from by have := Hme2.out; omega]; exact K4.out)
                    exact ⟨permIn_trans _ _ _ _ _ HP1.out k.1, k.2, S2.out⟩⟩
                  clear S2 hd2
                  have Hpost := Lib.hid hpost
                  clear hpost
                  go_wp2_with fail
                  go_end0
                  exact Hpost.out
            · have q1 : ¬ (a : Int) < (s : Int) := by omega
              obtain ⟨d2, hd⟩ : ∃ x, x = d1 := ⟨_, rfl⟩
              obtain ⟨w2, hw⟩ : ∃ x, x = w1 := ⟨_, rfl⟩
              have hP2 : PermIn a mid d1 d2 := by rw [hd]; exact permIn_refl _ _ _
              have hS2 : SortedIn (ltOf cf) a mid d2 := by rw [hd]; exact (by rw [show a = s from by omega]; exact K2.out)
              have S2 : Aside (SW enc w0 blk off d2 w2) := by rw [hd, hw]; exact S1
              rw [← hw]
              clear S1 hd hw
              have HPL : Hid (PermIn a mid d1 d2) := Lib.hid hP2
              have HSL : Hid (SortedIn (ltOf cf) a mid d2) := Lib.hid hS2
              have K3 : Hid (SortedIn (ltOf cf) mid e d2) := Lib.hid (fun i j r1 r2 r3 => by rw [hP2.2.1 i (.inr r1), hP2.2.1 j (.inr (by omega))]; exact K3'.out i j r1 r2 r3)
              have K4 : Hid (SortedIn (ltOf cf) e b d2) := Lib.hid (fun i j r1 r2 r3 => by rw [hP2.2.1 i (.inr (by have := Hme2.out; omega)), hP2.2.1 j (.inr (by have := Hme2.out; omega))]; exact K4'.out i j r1 r2 r3)
              have hd2 : d2.size = d.size := by rw [hP2.1]; exact hd1
              clear hP2 hS2 hd1
              by_cases c3 : mid < e
              · have q3 : (mid : Int) < (e : Int) := by omega
                by_cases c4 : e < b
                · have q4 : (e : Int) < (b : Int) := by omega
                  have h3 : mid < e ∧ e < b := ⟨c3, c4⟩
                  have hsym := ih mid e b d2 w2 (by rw [hd2]; exact Hs.out) S2.out c3 c4 (by rw [hd2]; exact hb) (by rw [hd2]; exact hsz) K3.out K4.out (by have := Hmb.out; omega)
                  rw [hd2] at hsym
                  have Hsym := Lib.hid hsym
                  clear hsym hd2 h3
                  go_wp2_with fail
                  refine Calls.mono Hsym.out ?_
                  rintro e' w3 ⟨rfl, d3, hP3, hS3, hW3⟩
                  have hpost : SymPost enc (ltOf cf) w0 blk off a b d (.returned (.tuple #[])) w3 := ⟨rfl, d3, by
                    have k := mergeEnd HO.out (by have := Hmb.out; omega) (by have := Hmb.out; omega) (by rw [HP1.out.1]; exact hb) Hx.out HPL.out HSL.out hP3 hS3
                    exact ⟨permIn_trans _ _ _ _ _ HP1.out k.1, k.2, hW3⟩⟩
                  clear S2 hW3
                  have Hpost := Lib.hid hpost
                  clear hpost
                  go_wp2_with fail
                  go_end0
                  exact Hpost.out
                · have q4 : ¬ (e : Int) < (b : Int) := by omega
                  have hpost : SymPost enc (ltOf cf) w0 blk off a b d (.returned (.tuple #[])) w2 := ⟨rfl, d2, by
                    have k := mergeEnd HO.out (by have := Hmb.out; omega) (by have := Hmb.out; omega) (by rw [HP1.out.1]; exact hb) Hx.out HPL.out HSL.out (permIn_refl _ _ _) (by rw [show b = e from by omega]; exact K3.out)
                    exact ⟨permIn_trans _ _ _ _ _ HP1.out k.1, k.2, S2.out⟩⟩
                  clear S2 hd2
                  have Hpost := Lib.hid hpost
                  clear hpost
                  go_wp2_with fail
                  go_end0
                  exact Hpost.out
              · have q3 : ¬ (mid : Int) < (e : Int) := by omega
                have hpost : SymPost enc (ltOf cf) w0 blk off a b d (.returned (.tuple #[])) w2 := ⟨rfl, d2, by
                  have k := mergeEnd HO.out (by have := Hmb.out; omega) (by have := Hmb.out; omega) (by rw [HP1.out.1]; exact hb) Hx.out HPL.out HSL.out (permIn_refl _ _ _) (by rw [show mid = e from by have := Hme2.out; omega]; exact K4.out)
                  exact ⟨permIn_trans _ _ _ _ _ HP1.out k.1, k.2, S2.out⟩⟩
                clear S2 hd2
                have Hpost := Lib.hid hpost
                clear hpost
                go_wp2_with fail
                go_end0
                exact Hpost.out
          · have z2 : ¬ (m : Int) < (e : Int) := by omega
            obtain ⟨d1, hd⟩ : ∃ x, x = d := ⟨_, rfl⟩
            obtain ⟨w1, hw⟩ : ∃ x, x = wr := ⟨_, rfl⟩
            have hP1 : PermIn a b d d1 := by rw [hd]; exact permIn_refl _ _ _
            have hrot : Rot s m e d d1 := by rw [hd]; exact (by rw [show e = m from by omega]; exact Rot.none2 d s m h_sm)
            have S1' : Aside (SW enc w0 blk off d1 w1) := by rw [hd, hw]; exact S1
            rw [← hw]
            clear S1 hd hw
            have S1 := S1'
            clear S1'
            have HP1 := Lib.hid hP1
            obtain ⟨k1, k2, k3, k4, -, k6⟩ := cutMerge HO.out Hs1.out Hs2.out h_as h_sm h_me h_eb Hmid.out hrot Hlo2.out Hhi2.out
            have K1 := Lib.hid k1
            have K2 := Lib.hid k2
            have K3' := Lib.hid k3
            have K4' := Lib.hid k4
            have Hx := Lib.hid k6
            have Hme2 : Hid (mid ≤ e) := Lib.hid (by have := Hmid.out; omega)
            have hd1 : d1.size = d.size := hP1.1
            clear k1 k2 k3 k4 k6 hP1 hrot
            by_cases c1 : a < s
            · have q1 : (a : Int) < (s : Int) := by omega
              by_cases c2 : s < mid
              · have q2 : (s : Int) < (mid : Int) := by omega
                have hsym := ih a s mid d1 w1 (by rw [hd1]; exact Hs.out) S1.out c1 c2 (by rw [hd1]; have := Hmb.out; omega) (by rw [hd1]; exact hsz) K1.out K2.out (by have := Hmb.out; omega)
                rw [hd1] at hsym
                have Hsym := Lib.hid hsym
                have Hd1 := Lib.hid hd1
                clear hsym hd1
                go_wp2_with fail
                refine Calls.mono Hsym.out ?_
                rintro e' w2 ⟨rfl, d2, hP2, hS2, hW2⟩
                have S2 : Aside _ := hW2
                have hd1 := Hd1.out
                clear S1 hW2 Hsym Hd1
                have HPL : Hid (PermIn a mid d1 d2) := Lib.hid hP2
                have HSL : Hid (SortedIn (ltOf cf) a mid d2) := Lib.hid hS2
                have K3 : Hid (SortedIn (ltOf cf) mid e d2) := Lib.hid (fun i j r1 r2 r3 => by rw [hP2.2.1 i (.inr r1), hP2.2.1 j (.inr (by omega))]; exact K3'.out i j r1 r2 r3)
                have K4 : Hid (SortedIn (ltOf cf) e b d2) := Lib.hid (fun i j r1 r2 r3 => by rw [hP2.2.1 i (.inr (by have := Hme2.out; omega)), hP2.2.1 j (.inr (by have := Hme2.out; omega))]; exact K4'.out i j r1 r2 r3)
                have hd2 : d2.size = d.size := by rw [hP2.1]; exact hd1
                clear hP2 hS2 hd1
                by_cases c3 : mid < e
                · have q3 : (mid : Int) < (e : Int) := by omega
                  by_cases c4 : e < b
                  · have q4 : (e : Int) < (b : Int) := by omega
                    have h3 : mid < e ∧ e < b := ⟨c3, c4⟩
                    have hsym := ih mid e b d2 w2 (by rw [hd2]; exact Hs.out) S2.out c3 c4 (by rw [hd2]; exact hb) (by rw [hd2]; exact hsz) K3.out K4.out (by have := Hmb.out; omega)
                    rw [hd2] at hsym
                    have Hsym := Lib.hid hsym
                    clear hsym hd2 h3
                    go_wp2_with fail
                    refine Calls.mono Hsym.out ?_
                    rintro e' w3 ⟨rfl, d3, hP3, hS3, hW3⟩
                    have hpost : SymPost enc (ltOf cf) w0 blk off a b d (.returned (.tuple #[])) w3 := ⟨rfl, d3, by
                      have k := mergeEnd HO.out (by have := Hmb.out; omega) (by have := Hmb.out; omega) (by rw [HP1.out.1]; exact hb) Hx.out HPL.out HSL.out hP3 hS3
                      exact ⟨permIn_trans _ _ _ _ _ HP1.out k.1, k.2, hW3⟩⟩
                    clear S2 hW3
                    have Hpost := Lib.hid hpost
                    clear hpost
                    go_wp2_with fail
                    go_end0
                    exact Hpost.out
                  · have q4 : ¬ (e : Int) < (b : Int) := by omega
                    have hpost : SymPost enc (ltOf cf) w0 blk off a b d (.returned (.tuple #[])) w2 := ⟨rfl, d2, by
                      have k := mergeEnd HO.out (by have := Hmb.out; omega) (by have := Hmb.out; omega) (by rw [HP1.out.1]; exact hb) Hx.out HPL.out HSL.out (permIn_refl _ _ _) (by rw [show b = e from by omega]; exact K3.out)
                      exact ⟨permIn_trans _ _ _ _ _ HP1.out k.1, k.2, S2.out⟩⟩
                    clear S2 hd2
                    have Hpost := Lib.hid hpost
                    clear hpost
                    go_wp2_with fail
                    go_end0
                    exact Hpost.out
                · have q3 : ¬ (mid : Int) < (e : Int) := by omega
                  have hpost : SymPost enc (ltOf cf) w0 blk off a b d (.returned (.tuple #[])) w2 := ⟨rfl, d2, by
                    have k := mergeEnd HO.out (by have := Hmb.out; omega) (by have := Hmb.out; omega) (by rw [HP1.out.1]; exact hb) Hx.out HPL.out HSL.out (permIn_refl _ _ _) (by rw [show mid = e from by have := Hme2.out; omega]; exact K4.out)
                    exact ⟨permIn_trans _ _ _ _ _ HP1.out k.1, k.2, S2.out⟩⟩
                  clear S2 hd2
                  have Hpost := Lib.hid hpost
                  clear hpost
                  go_wp2_with fail
                  go_end0
                  exact Hpost.out
              · have q2 : ¬ (s : Int) < (mid : Int) := by omega
                obtain ⟨d2, hd⟩ : ∃ x, x = d1 := ⟨_, rfl⟩
                obtain ⟨w2, hw⟩ : ∃ x, x = w1 := ⟨_, rfl⟩
                have hP2 : PermIn a mid d1 d2 := by rw [hd]; exact permIn_refl _ _ _
                have hS2 : SortedIn (ltOf cf) a mid d2 := by rw [hd]; exact (by rw [show mid = s from by omega]; exact K1.out)
                have S2 : Aside (SW enc w0 blk off d2 w2) := by rw [hd, hw]; exact S1
                rw [← hw]
                clear S1 hd hw
                have HPL : Hid (PermIn a mid d1 d2) := Lib.hid hP2
                have HSL : Hid (SortedIn (ltOf cf) a mid d2) := Lib.hid hS2
                have K3 : Hid (SortedIn (ltOf cf) mid e d2) := Lib.hid (fun i j r1 r2 r3 => by rw [hP2.2.1 i (.inr r1), hP2.2.1 j (.inr (by omega))]; exact K3'.out i j r1 r2 r3)
                have K4 : Hid (SortedIn (ltOf cf) e b d2) := Lib.hid (fun i j r1 r2 r3 => by rw [hP2.2.1 i (.inr (by have := Hme2.out; omega)), hP2.2.1 j (.inr (by have := Hme2.out; omega))]; exact K4'.out i j r1 r2 r3)
                have hd2 : d2.size = d.size := by rw [hP2.1]; exact hd1
                clear hP2 hS2 hd1
                by_cases c3 : mid < e
                · have q3 : (mid : Int) < (e : Int) := by omega
                  by_cases c4 : e < b
                  · have q4 : (e : Int) < (b : Int) := by omega
                    have h3 : mid < e ∧ e < b := ⟨c3, c4⟩
                    have hsym := ih mid e b d2 w2 (by rw [hd2]; exact Hs.out) S2.out c3 c4 (by rw [hd2]; exact hb) (by rw [hd2]; exact hsz) K3.out K4.out (by have := Hmb.out; omega)
                    rw [hd2] at hsym
                    have Hsym := Lib.hid hsym
                    clear hsym hd2 h3
                    go_wp2_with fail
                    refine Calls.mono Hsym.out ?_
                    rintro e' w3 ⟨rfl, d3, hP3, hS3, hW3⟩
                    have hpost : SymPost enc (ltOf cf) w0 blk off a b d (.returned (.tuple #[])) w3 := ⟨rfl, d3, by
                      have k := mergeEnd HO.out (by have := Hmb.out; omega) (by have := Hmb.out; omega) (by rw [HP1.out.1]; exact hb) Hx.out HPL.out HSL.out hP3 hS3
                      exact ⟨permIn_trans _ _ _ _ _ HP1.out k.1, k.2, hW3⟩⟩
                    clear S2 hW3
                    have Hpost := Lib.hid hpost
                    clear hpost
                    go_wp2_with fail
                    go_end0
                    exact Hpost.out
                  · have q4 : ¬ (e : Int) < (b : Int) := by omega
                    have hpost : SymPost enc (ltOf cf) w0 blk off a b d (.returned (.tuple #[])) w2 := ⟨rfl, d2, by
                      have k := mergeEnd HO.out (by have := Hmb.out; omega) (by have := Hmb.out; omega) (by rw [HP1.out.1]; exact hb) Hx.out HPL.out HSL.out (permIn_refl _ _ _) (by rw [show b = e from by omega]; exact K3.out)
                      exact ⟨permIn_trans _ _ _ _ _ HP1.out k.1, k.2, S2.out⟩⟩
                    clear S2 hd2
                    have Hpost := Lib.hid hpost
                    clear hpost
                    go_wp2_with fail
                    go_end0
                    exact Hpost.out
                · have q3 : ¬ (mid : Int) < (e : Int) := by omega
                  have hpost : SymPost enc (ltOf cf) w0 blk off a b d (.returned (.tuple #[])) w2 := ⟨rfl, d2, by
                    have k := mergeEnd HO.out (by have := Hmb.out; omega) (by have := Hmb.out; omega) (by rw [HP1.out.1]; exact hb) Hx.out HPL.out HSL.out (permIn_refl _ _ _) (by rw [show mid = e from by have := Hme2.out; omega]; exact K4.out)
                    exact ⟨permIn_trans _ _ _ _ _ HP1.out k.1, k.2, S2.out⟩⟩
                  clear S2 hd2
                  have Hpost := Lib.hid hpost
                  clear hpost
                  go_wp2_with fail
                  go_end0
                  exact Hpost.out
            · have q1 : ¬ (a : Int) < (s : Int) := by omega
              obtain ⟨d2, hd⟩ : ∃ x, x = d1 := ⟨_, rfl⟩
              obtain ⟨w2, hw⟩ : ∃ x, x = w1 := ⟨_, rfl⟩
              have hP2 : PermIn a mid d1 d2 := by rw [hd]; exact permIn_refl _ _ _
              have hS2 : SortedIn (ltOf cf) a mid d2 := by rw [hd]; exact (by rw [show a = s from by omega]; exact K2.out)
              have S2 : Aside (SW enc w0 blk off d2 w2) := by rw [hd, hw]; exact S1
              rw [← hw]
              clear S1 hd hw
              have HPL : Hid (PermIn a mid d1 d2) := Lib.hid hP2
              have HSL : Hid (SortedIn (ltOf cf) a mid d2) := Lib.hid hS2
              have K3 : Hid (SortedIn (ltOf cf) mid e d2) := Lib.hid (fun i j r1 r2 r3 => by rw [hP2.2.1 i (.inr r1), hP2.2.1 j (.inr (by omega))]; exact K3'.out i j r1 r2 r3)
              have K4 : Hid (SortedIn (ltOf cf) e b d2) := Lib.hid (fun i j r1 r2 r3 => by rw [hP2.2.1 i (.inr (by have := Hme2.out; omega)), hP2.2.1 j (.inr (by have := Hme2.out; omega))]; exact K4'.out i j r1 r2 r3)
              have hd2 : d2.size = d.size := by rw [hP2.1]; exact hd1
              clear hP2 hS2 hd1
              by_cases c3 : mid < e
              · have q3 : (mid : Int) < (e : Int) := by omega
                by_cases c4 : e < b
                · have q4 : (e : Int) < (b : Int) := by omega
                  have h3 : mid < e ∧ e < b := ⟨c3, c4⟩
                  have hsym := ih mid e b d2 w2 (by rw [hd2]; exact Hs.out) S2.out c3 c4 (by rw [hd2]; exact hb) (by rw [hd2]; exact hsz) K3.out K4.out (by have := Hmb.out; omega)
                  rw [hd2] at hsym
                  have Hsym := Lib.hid hsym
                  clear hsym hd2 h3
                  go_wp2_with fail
                  refine Calls.mono Hsym.out ?_
                  rintro e' w3 ⟨rfl, d3, hP3, hS3, hW3⟩
                  have hpost : SymPost enc (ltOf cf) w0 blk off a b d (.returned (.tuple #[])) w3 := ⟨rfl, d3, by
                    have k := mergeEnd HO.out (by have := Hmb.out; omega) (by have := Hmb.out; omega) (by rw [HP1.out.1]; exact hb) Hx.out HPL.out HSL.out hP3 hS3
                    exact ⟨permIn_trans _ _ _ _ _ HP1.out k.1, k.2, hW3⟩⟩
                  clear S2 hW3
                  have Hpost := Lib.hid hpost
                  clear hpost
                  go_wp2_with fail
                  go_end0
                  exact Hpost.out
                · have q4 : ¬ (e : Int) < (b : Int) := by omega
                  have hpost : SymPost enc (ltOf cf) w0 blk off a b d (.returned (.tuple #[])) w2 := ⟨rfl, d2, by
                    have k := mergeEnd HO.out (by have := Hmb.out; omega) (by have := Hmb.out; omega) (by rw [HP1.out.1]; exact hb) Hx.out HPL.out HSL.out (permIn_refl _ _ _) (by rw [show b = e from by omega]; exact K3.out)
                    exact ⟨permIn_trans _ _ _ _ _ HP1.out k.1, k.2, S2.out⟩⟩
                  clear S2 hd2
                  have Hpost := Lib.hid hpost
                  clear hpost
                  go_wp2_with fail
                  go_end0
                  exact Hpost.out
              · have q3 : ¬ (mid : Int) < (e : Int) := by omega
                have hpost : SymPost enc (ltOf cf) w0 blk off a b d (.returned (.tuple #[])) w2 := ⟨rfl, d2, by
                  have k := mergeEnd HO.out (by have := Hmb.out; omega) (by have := Hmb.out; omega) (by rw [HP1.out.1]; exact hb) Hx.out HPL.out HSL.out (permIn_refl _ _ _) (by rw [show mid = e from by have := Hme2.out; omega]; exact K4.out)
                  exact ⟨permIn_trans _ _ _ _ _ HP1.out k.1, k.2, S2.out⟩⟩
                clear S2 hd2
                have Hpost := Lib.hid hpost
                clear hpost
                go_wp2_with fail
                go_end0
                exact Hpost.out
        · have z1 : ¬ (s : Int) < (m : Int) := by omega
          obtain ⟨d1, hd⟩ : ∃ x, x = d := ⟨_, rfl⟩
          obtain ⟨w1, hw⟩ : ∃ x, x = wr := ⟨_, rfl⟩
          have hP1 : PermIn a b d d1 := by rw [hd]; exact permIn_refl _ _ _
          have hrot : Rot s m e d d1 := by rw [hd]; exact (by rw [show s = m from by omega]; exact Rot.none1 d m e)
          have S1' : Aside (SW enc w0 blk off d1 w1) := by rw [hd, hw]; exact S1
          rw [← hw]
          clear S1 hd hw
          have S1 := S1'
          clear S1'
          have HP1 := Lib.hid hP1
          obtain ⟨k1, k2, k3, k4, -, k6⟩ := cutMerge HO.out Hs1.out Hs2.out h_as h_sm h_me h_eb Hmid.out hrot Hlo2.out Hhi2.out
          have K1 := Lib.hid k1
          have K2 := Lib.hid k2
          have K3' := Lib.hid k3
          have K4' := Lib.hid k4
          have Hx := Lib.hid k6
          have Hme2 : Hid (mid ≤ e) := Lib.hid (by have := Hmid.out; omega)
          have hd1 : d1.size = d.size := hP1.1
          clear k1 k2 k3 k4 k6 hP1 hrot
          by_cases c1 : a < s
          · have q1 : (a : Int) < (s : Int) := by omega
            by_cases c2 : s < mid
            · have q2 : (s : Int) < (mid : Int) := by omega
              have hsym := ih a s mid d1 w1 (by rw [hd1]; exact Hs.out) S1.out c1 c2 (by rw [hd1]; have := Hmb.out; omega) (by rw [hd1]; exact hsz) K1.out K2.out (by have := Hmb.out; omega)
              rw [hd1] at hsym
              have Hsym := Lib.hid hsym
              have Hd1 := Lib.hid hd1
              clear hsym hd1
              go_wp2_with fail
              refine Calls.mono Hsym.out ?_
              rintro e' w2 ⟨rfl, d2, hP2, hS2, hW2⟩
              have S2 : Aside _ := hW2
              have hd1 := Hd1.out
              clear S1 hW2 Hsym Hd1
              have HPL : Hid (PermIn a mid d1 d2) := Lib.hid hP2
              have HSL : Hid (SortedIn (ltOf cf) a mid d2) := Lib.hid hS2
              have K3 : Hid (SortedIn (ltOf cf) mid e d2) := Lib.hid (fun i j r1 r2 r3 => by rw [hP2.2.1 i (.inr r1), hP2.2.1 j (.inr (by omega))]; exact K3'.out i j r1 r2 r3)
              have K4 : Hid (SortedIn (ltOf cf) e b d2) := Lib.hid (fun i j r1 r2 r3 => by rw [hP2.2.1 i (.inr (by have := Hme2.out; omega)), hP2.2.1 j (.inr (by have := Hme2.out; omega))]; exact K4'.out i j r1 r2 r3)
              have hd2 : d2.size = d.size := by rw [hP2.1]; exact hd1
              clear hP2 hS2 hd1
              by_cases c3 : mid < e
              · have q3 : (mid : Int) < (e : Int) := by omega
                by_cases c4 : e < b
                · have q4 : (e : Int) < (b : Int) := by omega
                  have h3 : mid < e ∧ e < b := ⟨c3, c4⟩
                  have hsym := ih mid e b d2 w2 (by rw [hd2]; exact Hs.out) S2.out c3 c4 (by rw [hd2]; exact hb) (by rw [hd2]; exact hsz) K3.out K4.out (by have := Hmb.out; omega)
                  rw [hd2] at hsym
                  have Hsym := Lib.hid hsym
                  clear hsym hd2 h3
                  go_wp2_with fail
                  refine Calls.mono Hsym.out ?_
                  rintro e' w3 ⟨rfl, d3, hP3, hS3, hW3⟩
                  have hpost : SymPost enc (ltOf cf) w0 blk off a b d (.returned (.tuple #[])) w3 := ⟨rfl, d3, by
                    have k := mergeEnd HO.out (by have := Hmb.out; omega) (by have := Hmb.out; omega) (by rw [HP1.out.1]; exact hb) Hx.out HPL.out HSL.out hP3 hS3
                    exact ⟨permIn_trans _ _ _ _ _ HP1.out k.1, k.2, hW3⟩⟩
                  clear S2 hW3
                  have Hpost := Lib.hid hpost
                  clear hpost
                  go_wp2_with fail
                  go_end0
                  exact Hpost.out
                · have q4 : ¬ (e : Int) < (b : Int) := by omega
                  have hpost : SymPost enc (ltOf cf) w0 blk off a b d (.returned (.tuple #[])) w2 := ⟨rfl, d2, by
                    have k := mergeEnd HO.out (by have := Hmb.out; omega) (by have := Hmb.out; omega) (by rw [HP1.out.1]; exact hb) Hx.out HPL.out HSL.out (permIn_refl _ _ _) (by rw [show b = e from by omega]; exact K3.out)
                    exact ⟨permIn_trans _ _ _ _ _ HP1.out k.1, k.2, S2.out⟩⟩
                  clear S2 hd2
                  have Hpost := Lib.hid hpost
                  clear hpost
                  go_wp2_with fail
                  go_end0
                  exact Hpost.out
              · have q3 : ¬ (mid : Int) < (e : Int) := by omega
                have hpost : SymPost enc (ltOf cf) w0 blk off a b d (.returned (.tuple #[])) w2 := ⟨rfl, d2, by
                  have k := mergeEnd HO.out (by have := Hmb.out; omega) (by have := Hmb.out; omega) (by rw [HP1.out.1]; exact hb) Hx.out HPL.out HSL.out (permIn_refl _ _ _) (by rw [show mid = e from by have := Hme2.out; omega]; exact K4.out)
                  exact ⟨permIn_trans _ _ _ _ _ HP1.out k.1, k.2, S2.out⟩⟩
                clear S2 hd2
                have Hpost := Lib.hid hpost
                clear hpost
                go_wp2_with fail
                go_end0
                exact Hpost.out
            · have q2 : ¬ (s : Int) < (mid : Int) := by omega
              obtain ⟨d2, hd⟩ : ∃ x, x = d1 := ⟨_, rfl⟩
              obtain ⟨w2, hw⟩ : ∃ x, x = w1 := ⟨_, rfl⟩
              have hP2 : PermIn a mid d1 d2 := by rw [hd]; exact permIn_refl _ _ _
              have hS2 : SortedIn (ltOf cf) a mid d2 := by rw [hd]; exact (by rw [show mid = s from by omega]; exact K1.out)
              have S2 : Aside (SW enc w0 blk off d2 w2) := by rw [hd, hw]; exact S1
              rw [← hw]
              clear S1 hd hw
              have HPL : Hid (PermIn a mid d1 d2) := Lib.hid hP2
              have HSL : Hid (SortedIn (ltOf cf) a mid d2) := Lib.hid hS2
              have K3 : Hid (SortedIn (ltOf cf) mid e d2) := Lib.hid (fun i j r1 r2 r3 => by rw [hP2.2.1 i (.inr r1), hP2.2.1 j (.inr (by omega))]; exact K3'.out i j r1 r2 r3)
              have K4 : Hid (SortedIn (ltOf cf) e b d2) := Lib.hid (fun i j r1 r2 r3 => by rw [hP2.2.1 i (.inr (by have := Hme2.out; omega)), hP2.2.1 j (.inr (by have := Hme2.out; omega))]; exact K4'.out i j r1 r2 r3)
              have hd2 : d2.size = d.size := by rw [hP2.1]; exact hd1
              clear hP2 hS2 hd1
              by_cases c3 : mid < e
              · have q3 : (mid : Int) < (e : Int) := by omega
                by_cases c4 : e < b
                · have q4 : (e : Int) < (b : Int) := by omega
                  have h3 : mid < e ∧ e < b := ⟨c3, c4⟩
                  have hsym := ih mid e b d2 w2 (by rw [hd2]; exact Hs.out) S2.out c3 c4 (by rw [hd2]; exact hb) (by rw [hd2]; exact hsz) K3.out K4.out (by have := Hmb.out; omega)
                  rw [hd2] at hsym
                  have Hsym := Lib.hid hsym
                  clear hsym hd2 h3
                  go_wp2_with fail
                  refine Calls.mono Hsym.out ?_
                  rintro e' w3 ⟨rfl, d3, hP3, hS3, hW3⟩
                  have hpost : SymPost enc (ltOf cf) w0 blk off a b d (.returned (.tuple #[])) w3 := ⟨rfl, d3, by
                    have k := mergeEnd HO.out (by have := Hmb.out; omega) (by have := Hmb.out; omega) (by rw [HP1.out.1]; exact hb) Hx.out HPL.out HSL.out hP3 hS3
                    exact ⟨permIn_trans _ _ _ _ _ HP1.out k.1, k.2, hW3⟩⟩
                  clear S2 hW3
                  have Hpost := Lib.hid hpost
                  clear hpost
                  go_wp2_with fail
                  go_end0
                  exact Hpost.out
                · have q4 : ¬ (e : Int) < (b : Int) := by omega
                  have hpost : SymPost enc (ltOf cf) w0 blk off a b d (.returned (.tuple #[])) w2 := ⟨rfl, d2, by
                    have k := mergeEnd HO.out (by have := Hmb.out; omega) (by have := Hmb.out; omega) (by rw [HP1.out.1]; exact hb) Hx.out HPL.out HSL.out (permIn_refl _ _ _) (by rw [show b = e from by omega]; exact K3.out)
                    exact ⟨permIn_trans _ _ _ _ _ HP1.out k.1, k.2, S2.out⟩⟩
                  clear S2 hd2
                  have Hpost := Lib.hid hpost
                  clear hpost
                  go_wp2_with fail
                  go_end0
                  exact Hpost.out
              · have q3 : ¬ (mid : Int) < (e : Int) := by omega
                have hpost : SymPost enc (ltOf cf) w0 blk off a b d (.returned (.tuple #[])) w2 := ⟨rfl, d2, by
                  have k := mergeEnd HO.out (by have := Hmb.out; omega) (by have := Hmb.out; omega) (by rw [HP1.out.1]; exact hb) Hx.out HPL.out HSL.out (permIn_refl _ _ _) (by rw [show mid = e from by have := Hme2.out; omega]; exact K4.out)
                  exact ⟨permIn_trans _ _ _ _ _ HP1.out k.1, k.2, S2.out⟩⟩
                clear S2 hd2
                have Hpost := Lib.hid hpost
                clear hpost
                go_wp2_with fail
                go_end0
                exact Hpost.out
          · have q1 : ¬ (a : Int) < (s : Int) := by omega
            obtain ⟨d2, hd⟩ : ∃ x, x = d1 := ⟨_, rfl⟩
            obtain ⟨w2, hw⟩ : ∃ x, x = w1 := ⟨_, rfl⟩
            have hP2 : PermIn a mid d1 d2 := by rw [hd]; exact permIn_refl _ _ _
            have hS2 : SortedIn (ltOf cf) a mid d2 := by rw [hd]; exact (by rw [show a = s from by omega]; exact K2.out)
            have S2 : Aside (SW enc w0 blk off d2 w2) := by rw [hd, hw]; exact S1
            rw [← hw]
            clear S1 hd hw
            have HPL : Hid (PermIn a mid d1 d2) := Lib.hid hP2
            have HSL : Hid (SortedIn (ltOf cf) a mid d2) := Lib.hid hS2
            have K3 : Hid (SortedIn (ltOf cf) mid e d2) := Lib.hid (fun i j r1 r2 r3 => by rw [hP2.2.1 i (.inr r1), hP2.2.1 j (.inr (by omega))]; exact K3'.out i j r1 r2 r3)
            have K4 : Hid (SortedIn (ltOf cf) e b d2) := Lib.hid (fun i j r1 r2 r3 => by rw [hP2.2.1 i (.inr (by have := Hme2.out; omega)), hP2.2.1 j (.inr (by have := Hme2.out; omega))]; exact K4'.out i j r1 r2 r3)
            have hd2 : d2.size = d.size := by rw [hP2.1]; exact hd1
            clear hP2 hS2 hd1
            by_cases c3 : mid < e
            · have q3 : (mid : Int) < (e : Int) := by omega
              by_cases c4 : e < b
              · have q4 : (e : Int) < (b : Int) := by omega
                have h3 : mid < e ∧ e < b := ⟨c3, c4⟩
                have hsym := ih mid e b d2 w2 (by rw [hd2]; exact Hs.out) S2.out c3 c4 (by rw [hd2]; exact hb) (by rw [hd2]; exact hsz) K3.out K4.out (by have := Hmb.out; omega)
                rw [hd2] at hsym
                have Hsym := Lib.hid hsym
                clear hsym hd2 h3
                go_wp2_with fail
                refine Calls.mono Hsym.out ?_
                rintro e' w3 ⟨rfl, d3, hP3, hS3, hW3⟩
                have hpost : SymPost enc (ltOf cf) w0 blk off a b d (.returned (.tuple #[])) w3 := ⟨rfl, d3, by
                  have k := mergeEnd HO.out (by have := Hmb.out; omega) (by have := Hmb.out; omega) (by rw [HP1.out.1]; exact hb) Hx.out HPL.out HSL.out hP3 hS3
                  exact ⟨permIn_trans _ _ _ _ _ HP1.out k.1, k.2, hW3⟩⟩
                clear S2 hW3
                have Hpost := Lib.hid hpost
                clear hpost
                go_wp2_with fail
                go_end0
                exact Hpost.out
              · have q4 : ¬ (e : Int) < (b : Int) := by omega
                have hpost : SymPost enc (ltOf cf) w0 blk off a b d (.returned (.tuple #[])) w2 := ⟨rfl, d2, by
                  have k := mergeEnd HO.out (by have := Hmb.out; omega) (by have := Hmb.out; omega) (by rw [HP1.out.1]; exact hb) Hx.out HPL.out HSL.out (permIn_refl _ _ _) (by rw [show b = e from by omega]; exact K3.out)
                  exact ⟨permIn_trans _ _ _ _ _ HP1.out k.1, k.2, S2.out⟩⟩
                clear S2 hd2
                have Hpost := Lib.hid hpost
                clear hpost
                go_wp2_with fail
                go_end0
                exact Hpost.out
            · have q3 : ¬ (mid : Int) < (e : Int) := by omega
              have hpost : SymPost enc (ltOf cf) w0 blk off a b d (.returned (.tuple #[])) w2 := ⟨rfl, d2, by
                have k := mergeEnd HO.out (by have := Hmb.out; omega) (by have := Hmb.out; omega) (by rw [HP1.out.1]; exact hb) Hx.out HPL.out HSL.out (permIn_refl _ _ _) (by rw [show mid = e from by have := Hme2.out; omega]; exact K4.out)
                exact ⟨permIn_trans _ _ _ _ _ HP1.out k.1, k.2, S2.out⟩⟩
              clear S2 hd2
              have Hpost := Lib.hid hpost
              clear hpost
              go_wp2_with fail
              go_end0
              exact Hpost.out
end Go.Proofs.Ytpncblagjkbemaa
end

/- The library's stable sort, at rows' headers: a permutation that is sorted. (Printed by std.py.) -/
section
set_option linter.unusedVariables false
set_option linter.unusedSimpArgs false
namespace Go.Proofs.Ytpncblagjkbemaa
open Go.RowKit Go.Sort Go.Shelf
set_option linter.unusedVariables false
set_option linter.unusedSimpArgs false
variable {α : Type} [Inhabited α]

theorem symMerge_s (enc : α → Value) (cf : α → α → Int) (hO : SWO (ltOf cf)) (g : Nat) (cb : Array Value) (blk off cap : Nat) (d0 : Array α) (w0 : World) (eg : ∀ args w, (callFunc g args).run Try.prog w = .ok (.enter g args) w) (hcmp : CmpLays1 Try.prog g cb enc cf blk off d0.size w0) (R : Go.Proofs.Row1 enc w0 blk off d0) :
    ∀ (N a m b : Nat) (d : Array α) (w : World) (hs : d0.size = d.size) (S : SW enc w0 blk off d w) (ham : a < m) (hmb : m < b) (hb : b ≤ d.size) (hsz : d.size < 4611686018427387904) (hs1 : SortedIn (ltOf cf) a m d) (hs2 : SortedIn (ltOf cf) m b d), b - a < N → Calls Try.prog 133 #[.slice (some ⟨blk, off, none⟩) d.size cap, .int .i64 a, .int .i64 m, .int .i64 b, .func (.func g) #[] cb] w (SymPost enc (ltOf cf) w0 blk off a b d) := by
  intro N
  induction N with
  | zero => intro a m b d w _ _ _ _ _ _ _ _ h; omega
  | succ N ih =>
    intro a m b d w hs S ham hmb hb hsz hs1 hs2 hN
    by_cases hm : m = a + 1
    · exact symMerge1_s enc cf hO g cb blk off cap a m b d0 d w0 w eg hcmp R hs S ham hmb hb hsz hs1 hs2 hm
    · by_cases hbm : b = m + 1
      · exact symMerge2_s enc cf hO g cb blk off cap a m b d0 d w0 w eg hcmp R hs S ham hmb hb hsz hs1 hs2 hm hbm
      · exact symMergeG_s enc cf hO N g cb blk off cap a m b d0 d w0 w eg hcmp R hs S ham hmb hb hsz hs1 hs2 hm hbm ih (by omega)

/-! ### chunks -/
/-- From lo on, chunks of s places each, the last one shorter; each is sorted. -/
inductive Chunks (lt : α → α → Bool) (s : Nat) (d : Array α) : Nat → Nat → Prop
  | last {lo hi : Nat} : hi ≤ lo + s → SortedIn lt lo hi d → Chunks lt s d lo hi
  | step {lo hi : Nat} : SortedIn lt lo (lo + s) d → lo + s ≤ hi → Chunks lt s d (lo + s) hi → Chunks lt s d lo hi
/-- Whole chunks, up to a place. -/
inductive Full (lt : α → α → Bool) (s : Nat) (d : Array α) : Nat → Prop
  | nil : Full lt s d 0
  | snoc {a : Nat} : Full lt s d a → SortedIn lt a (a + s) d → Full lt s d (a + s)
section
variable {lt : α → α → Bool} {s : Nat} {d d' : Array α}
theorem SortedIn.same {lo hi : Nat} (h : SortedIn lt lo hi d) (he : ∀ i, lo ≤ i → i < hi → d'[i]! = d[i]!) : SortedIn lt lo hi d' := fun i j h1 h2 h3 => by
  rw [he i h1 (by omega), he j (by omega) h3]; exact h i j h1 h2 h3
theorem Full.same {a : Nat} (h : Full lt s d a) (he : ∀ i, i < a → d'[i]! = d[i]!) : Full lt s d' a := by
  induction h with
  | nil => exact .nil
  | snoc h1 h2 ih => exact .snoc (ih (fun i hi => he i (by omega))) (SortedIn.same h2 (fun i q1 q2 => he i (by omega)))
theorem Chunks.same {lo hi : Nat} (h : Chunks lt s d lo hi) (he : ∀ i, lo ≤ i → i < hi → d'[i]! = d[i]!) : Chunks lt s d' lo hi := by
  induction h with
  | last h1 h2 => exact .last h1 (SortedIn.same h2 he)
  | step h1 h2 h3 ih => exact .step (SortedIn.same h1 (fun i q1 q2 => he i q1 (by omega))) h2 (ih (fun i q1 q2 => he i (by omega) q2))
theorem Full.chunks {a hi : Nat} (h : Full lt s d a) : Chunks lt s d a hi → a ≤ hi → Chunks lt s d 0 hi := by
  induction h with
  | nil => exact fun h _ => h
  | snoc h1 h2 ih => exact fun h3 h4 => ih (.step h2 h4 h3) (by omega)
theorem Chunks.two {lo hi : Nat} (hs : 0 < s) (h : Chunks lt s d lo hi) (h2 : lo + 2 * s ≤ hi) : SortedIn lt lo (lo + s) d ∧ SortedIn lt (lo + s) (lo + 2 * s) d ∧ Chunks lt s d (lo + 2 * s) hi := by
  cases h with
  | last h3 h4 => omega
  | step h3 h4 h5 =>
    cases h5 with
    | last h6 h7 =>
      have e : hi = lo + 2 * s := by omega
      subst e
      exact ⟨h3, h7, .last (by omega) (fun i j q1 q2 q3 => by omega)⟩
    | step h6 h7 h8 =>
      rw [show lo + s + s = lo + 2 * s by omega] at h6 h8
      exact ⟨h3, h6, h8⟩
theorem Chunks.pair {lo hi : Nat} (h : Chunks lt s d lo hi) (h1 : lo + s < hi) (h2 : hi < lo + 2 * s) : SortedIn lt lo (lo + s) d ∧ SortedIn lt (lo + s) hi d := by
  cases h with
  | last h3 h4 => omega
  | step h3 h4 h5 =>
    cases h5 with
    | last h6 h7 => exact ⟨h3, h7⟩
    | step h6 h7 h8 => omega
theorem Chunks.one {lo hi : Nat} (h : Chunks lt s d lo hi) (h1 : hi ≤ lo + s) : SortedIn lt lo hi d := by
  cases h with
  | last h3 h4 => exact h4
  | step h3 h4 h5 => exact fun i j q1 q2 q3 => h3 i j q1 q2 (by omega)
end
set_option maxHeartbeats 16000000 in
set_option maxRecDepth 1000000 in
theorem stable_s (enc : α → Value) (cf : α → α → Int) (hO : SWO (ltOf cf)) (g : Nat) (cb : Array Value) (blk off cap : Nat) (d0 : Array α) (w0 : World)
    (eg : ∀ args w, (callFunc g args).run Try.prog w = .ok (.enter g args) w) (hcmp : CmpLays1 Try.prog g cb enc cf blk off d0.size w0) (R : Go.Proofs.Row1 enc w0 blk off d0) (hsz : d0.size < 1000000000000) :
    Calls Try.prog 124 #[.slice (some ⟨blk, off, none⟩) d0.size cap, .int .i64 d0.size, .func (.func g) #[] cb] w0 (SymPost enc (ltOf cf) w0 blk off 0 d0.size d0) := by
  have HC : Aside _ := hcmp
  have HR := Lib.hid R
  have HO := Lib.hid hO
  have S0 : Aside (SW enc w0 blk off d0 w0) := SW.start R.hH
  obtain ⟨n, hn⟩ : ∃ n, n = d0.size := ⟨_, rfl⟩
  have Hn := Lib.hid hn
  have hszI : n < 1000000000000 := by omega
  have hset : ∀ P : Nat → Prop, P d0.size → P n := fun P h => by rw [hn]; exact h
  clear R hcmp hO hsz hset
  rw [← hn]
  clear hn
  go_enter Try.func124, Try.ntmps124
  go_wp2_with fail
  go_loopw [7, 8] (fun t7 t8 wr => ∃ (x y : Nat) (dk : Array α), t7 = .int .i64 x ∧ t8 = .int .i64 y ∧ Hid (y = x + 20) ∧ x ≤ n ∧ Hid (dk.size = n) ∧ Hid (Full (ltOf cf) 20 dk x) ∧ Hid (PermIn 0 n d0 dk) ∧ Aside (SW enc w0 blk off dk wr)) (fun _ t8 _ => n + 1 - (intOf t8).toNat)
  case atStart => exact ⟨0, 20, d0, rfl, rfl, Lib.hid rfl, Nat.zero_le _, Lib.hid Hn.out.symm, Lib.hid .nil, Lib.hid (permIn_refl _ _ _), S0⟩
  case round =>
    clear S0
    obtain ⟨x, y, dk, rfl, rfl, Hy, hxn, Hdk, HF, HP, S1⟩ := hrel
    by_cases hlt : y ≤ n
    · have iij : (y : Int) ≤ (n : Int) := by omega
      have hi := Any.insertionSortCmpFunc_s (P := Try.prog) (ρ := sortRows_ren) { sortRows with } enc cf g cb blk off cap x y d0 dk w0 wr eg HC.out HR.out (by rw [Hdk.out, Hn.out]) S1.out (by have := Hy.out; omega) (by rw [Hdk.out]; exact hlt) (by rw [Hdk.out]; omega)
      rw [Hdk.out] at hi
      have Hi := Lib.hid hi
      have hih := insertionSort_holds (lt := ltOf cf) HO.out dk x y (by have := Hy.out; omega) (by rw [Hdk.out]; exact hlt)
      have Hih := Lib.hid hih
      clear hi hih
      go_wp2_with fail
      refine Calls.mono Hi.out ?_
      rintro e w2 ⟨rfl, hW⟩
      have S2 : Aside _ := hW
      clear hW Hi S1
      have e20 : IntKind.i64.wrap ((y : Int) + 20) = (y : Int) + 20 := wrapOk (by omega) (by omega)
      go_wp2_with fail
      go_roundw
      case rel => exact ⟨y, y + 20, insertionSort (ltOf cf) dk x y, rfl, by first | rfl | go_num | (congr 1), Lib.hid rfl, hlt, Lib.hid (by rw [Hih.out.1.1]; exact Hdk.out), Lib.hid (by
        have k := Full.snoc (HF.out.same (d' := insertionSort (ltOf cf) dk x y) (fun i hi => Hih.out.1.2.1 i (.inl hi))) (by rw [← Hy.out]; exact Hih.out.2)
        rw [← Hy.out] at k
        exact k), Lib.hid (permIn_trans _ _ _ _ _ HP.out (permIn_mono _ _ _ _ _ _ (Nat.zero_le _) hlt (by rw [Hdk.out]; omega) Hih.out.1)), S2⟩
      case measure => have := Hy.out; simp [intOf]; omega
    · have iij : ¬ (y : Int) ≤ (n : Int) := by omega
      have hi := Any.insertionSortCmpFunc_s (P := Try.prog) (ρ := sortRows_ren) { sortRows with } enc cf g cb blk off cap x n d0 dk w0 wr eg HC.out HR.out (by rw [Hdk.out, Hn.out]) S1.out hxn (by rw [Hdk.out]; exact Nat.le_refl _) (by rw [Hdk.out]; omega)
      rw [Hdk.out] at hi
      have Hi := Lib.hid hi
      have hih := insertionSort_holds (lt := ltOf cf) HO.out dk x n hxn (by rw [Hdk.out]; exact Nat.le_refl _)
      have Hih := Lib.hid hih
      clear hi hih
      go_wp2_with fail
      refine Calls.mono Hi.out ?_
      rintro e w2 ⟨rfl, hW⟩
      obtain ⟨d2, hd2⟩ : ∃ q, q = insertionSort (ltOf cf) dk x n := ⟨_, rfl⟩
      rw [← hd2] at hW Hih
      have S2 : Aside (SW enc w0 blk off d2 w2) := hW
      have HCh : Hid (Chunks (ltOf cf) 20 d2 0 n) := Lib.hid ((HF.out.same (fun i hi => Hih.out.1.2.1 i (.inl hi))).chunks (.last (by have := Hy.out; omega) Hih.out.2) hxn)
      have HP2 : Hid (PermIn 0 n d0 d2) := Lib.hid (permIn_trans _ _ _ _ _ HP.out (permIn_mono _ _ _ _ _ _ (Nat.zero_le _) (Nat.le_refl _) (by rw [Hdk.out]; omega) Hih.out.1))
      have Hd2 : Hid (d2.size = n) := Lib.hid (by rw [Hih.out.1.1]; exact Hdk.out)
      clear hW Hi S1 hd2 Hih HP HF Hdk Hy iij hlt hxn
      go_wp2_with fail
      go_loopw [6] (fun t6 wr => ∃ (bs : Nat) (dk : Array α), t6 = .int .i64 bs ∧ 20 ≤ bs ∧ bs ≤ 2 * n + 20 ∧ Hid (dk.size = n) ∧ Hid (Chunks (ltOf cf) bs dk 0 n) ∧ Hid (PermIn 0 n d0 dk) ∧ Aside (SW enc w0 blk off dk wr)) (fun t6 _ => n - (intOf t6).toNat)
      case atStart => exact ⟨20, d2, rfl, Nat.le_refl _, by omega, Hd2, HCh, HP2, S2⟩
      case round =>
        clear S2 Hd2 HCh HP2
        obtain ⟨bs, dk, rfl, hbs, hbn, Hdk, HCh, HP, S1⟩ := hrel
        by_cases hlt : bs < n
        · have iij : (bs : Int) < (n : Int) := by omega
          obtain ⟨B, hB⟩ : ∃ B, B = 2 * bs := ⟨_, rfl⟩
          have eB : (2 : Int) * (bs : Int) = (B : Int) := by omega
          have eB2 : (bs : Int) * 2 = (B : Int) := by omega
          have wB : IntKind.i64.wrap (B : Int) = (B : Int) := wrapOk (by omega) (by omega)
          have hBn : B ≤ 2 * n + 40 := by omega
          have HB := Lib.hid hB
          clear hB
          go_wp2_with fail
          go_loopw [7, 8] (fun t7 t8 wr => ∃ (x y : Nat) (dk : Array α), t7 = .int .i64 x ∧ t8 = .int .i64 y ∧ Hid (y = x + 2 * bs) ∧ x ≤ n ∧ Hid (dk.size = n) ∧ Hid (Full (ltOf cf) (2 * bs) dk x) ∧ Hid (Chunks (ltOf cf) bs dk x n) ∧ Hid (PermIn 0 n d0 dk) ∧ Aside (SW enc w0 blk off dk wr)) (fun _ t8 _ => n + 1 - (intOf t8).toNat)
          case atStart => exact ⟨0, B, dk, rfl, rfl, Lib.hid (by rw [HB.out]; omega), Nat.zero_le _, Hdk, Lib.hid .nil, HCh, HP, S1⟩
          case round =>
            clear S1 Hdk HCh HP dk
            obtain ⟨x, y, dk, rfl, rfl, Hy, hxn, Hdk, HF, HCh, HP, S1⟩ := hrel
            obtain ⟨mm, hmm⟩ : ∃ q, q = x + bs := ⟨_, rfl⟩
            have em : (x : Int) + (bs : Int) = (mm : Int) := by omega
            have Hmm := Lib.hid hmm
            clear hmm
            by_cases hlt2 : y ≤ n
            · have iij2 : (y : Int) ≤ (n : Int) := by omega
              have htwo := HCh.out.two (by omega) (by rw [← Hy.out]; exact hlt2)
              have hsy := symMerge_s enc cf HO.out g cb blk off cap d0 w0 eg HC.out HR.out (y - x + 1) x mm y dk wr (by rw [Hdk.out, Hn.out]) S1.out (by have := Hmm.out; omega) (by have := Hmm.out; have := Hy.out; omega) (by rw [Hdk.out]; exact hlt2) (by rw [Hdk.out]; omega) (by rw [Hmm.out]; exact htwo.1) (by rw [Hmm.out, Hy.out]; exact htwo.2.1) (by omega)
              rw [Hdk.out] at hsy
              have Hsy := Lib.hid hsy
              have Htwo := Lib.hid htwo
              clear hsy htwo
              go_wp2_with fail
              refine Calls.mono Hsy.out ?_
              rintro e w2 ⟨rfl, d2, hP2, hS2, hW⟩
              have S2 : Aside _ := hW
              have HP2 := Lib.hid hP2
              have HS2 := Lib.hid hS2
              clear hW hP2 hS2 Hsy S1
              obtain ⟨y2, hy2⟩ : ∃ q, q = y + B := ⟨_, rfl⟩
              have ey : (y : Int) + (B : Int) = (y2 : Int) := by omega
              have Hy2 := Lib.hid hy2
              clear hy2
              go_wp2_with fail
              go_roundw
              case rel => exact ⟨y, y2, d2, rfl, rfl, Lib.hid (by rw [Hy2.out, HB.out]), hlt2, Lib.hid (by rw [HP2.out.1]; exact Hdk.out), Lib.hid (by
                have k := Full.snoc (HF.out.same (d' := d2) (fun i hi => HP2.out.2.1 i (.inl hi))) (by rw [← Hy.out]; exact HS2.out)
                rw [← Hy.out] at k
                exact k), Lib.hid (by
                have k := Htwo.out.2.2.same (d' := d2) (fun i q1 q2 => HP2.out.2.1 i (.inr (by rw [Hy.out]; exact q1)))
                rw [← Hy.out] at k
                exact k), Lib.hid (permIn_trans _ _ _ _ _ HP.out (permIn_mono _ _ _ _ _ _ (Nat.zero_le _) hlt2 (by rw [Hdk.out]; omega) HP2.out)), S2⟩
              case measure => have := Hy2.out; have := HB.out; simp [intOf]; omega
            · have iij2 : ¬ (y : Int) ≤ (n : Int) := by omega
              by_cases hmn : mm < n
              · have imn : (mm : Int) < (n : Int) := by omega
                have hpair := HCh.out.pair (by rw [← Hmm.out]; exact hmn) (by have := Hy.out; omega)
                have hsy := symMerge_s enc cf HO.out g cb blk off cap d0 w0 eg HC.out HR.out (n - x + 1) x mm n dk wr (by rw [Hdk.out, Hn.out]) S1.out (by have := Hmm.out; omega) hmn (by rw [Hdk.out]; exact Nat.le_refl _) (by rw [Hdk.out]; omega) (by rw [Hmm.out]; exact hpair.1) (by rw [Hmm.out]; exact hpair.2) (by omega)
                rw [Hdk.out] at hsy
                have Hsy := Lib.hid hsy
                clear hsy hpair
                go_wp2_with fail
                refine Calls.mono Hsy.out ?_
                rintro e w2 ⟨rfl, d2, hP2, hS2, hW⟩
                have S2 : Aside _ := hW
                have HP2 := Lib.hid hP2
                have HS2 := Lib.hid hS2
                clear hW hP2 hS2 Hsy S1
                go_wp2_with fail
                go_roundw
                case rel => exact ⟨B, d2, rfl, by have := HB.out; omega, by have := HB.out; omega, Lib.hid (by rw [HP2.out.1]; exact Hdk.out), Lib.hid (by
                  have k := (HF.out.same (d' := d2) (fun i hi => HP2.out.2.1 i (.inl hi))).chunks (.last (by have := Hy.out; omega) HS2.out) hxn
                  rw [← HB.out] at k
                  exact k), Lib.hid (permIn_trans _ _ _ _ _ HP.out (permIn_mono _ _ _ _ _ _ (Nat.zero_le _) (Nat.le_refl _) (by rw [Hdk.out]; omega) HP2.out)), S2⟩
                case measure => have := HB.out; simp [intOf]; omega
              · have imn : ¬ (mm : Int) < (n : Int) := by omega
                go_wp2_with fail
                go_roundw
                case rel => exact ⟨B, dk, rfl, by have := HB.out; omega, by have := HB.out; omega, Hdk, Lib.hid (by
                  have k := HF.out.chunks (.last (by have := Hy.out; omega) (HCh.out.one (by have := Hmm.out; omega))) hxn
                  rw [← HB.out] at k
                  exact k), HP, S1⟩
                case measure => have := HB.out; simp [intOf]; omega
        · have iij : ¬ (bs : Int) < (n : Int) := by omega
          have hpost : SymPost enc (ltOf cf) w0 blk off 0 n d0 (.returned (.tuple #[])) wr := ⟨rfl, dk, HP.out, HCh.out.one (by omega), S1.out⟩
          clear S1
          have Hpost := Lib.hid hpost
          clear hpost
          go_wp2_with fail
          go_end0
          exact Hpost.out
end Go.Proofs.Ytpncblagjkbemaa
end

/- A row's key; how two rows' keys stand, as the stable sort asks it. -/
section
set_option linter.unusedVariables false
set_option linter.unusedSimpArgs false
namespace Go.Proofs.Ytpncblagjkbemaa
open Go.RowKit Go.Sort Go.Shelf
set_option linter.unusedVariables false
set_option linter.unusedSimpArgs false
attribute [local go_sem ↓] Go.wp_at_zero Go.wp_at_succ

/-- append never takes a draw back. -/
theorem run_app_drawn {P : Program} {w : World} (base : Nat) (t tx ty e : TypeId) (i : TypeInfo) (z : Value) (size bytes : Nat) (ht : P.underlying t = some (.slice e)) (hi : P.info? e = some i) (hz : i.zero = some z)
    (hsize : i.size = size) (hby : i.bytes = bytes) (hzs : z.cells.size = size) (v : Value) (n : Nat) (xs : List Value) (hown : w.ownsRow base e size v n xs)
    (x : Value) (m : Nat) (news : List Value) (hs : Src P size tx x m news w) (h63 : n + m ≤ maxLen) (hbytes : (n + m) * bytes ≤ 140737488355328) {v' : Value} {w' : World} (hrun : (Builtin.append_ #[t, tx] ty #[v, x]).run P w = .ok v' w') : w.drawn ≤ w'.drawn := by
  subst hsize
  subst hby
  have hsmall : n + m ≤ 9223372036854775807 := by simp only [maxLen] at h63; omega
  rcases hown.2 with ⟨rfl, rfl⟩ | ⟨g, cap, cur, rfl, hbg, hg, hnc, hcm, hcs, htake⟩
  · by_cases hm : m = 0
    · subst hm
      have hr : (Builtin.append_ #[t, tx] ty #[.slice none 0 0, x]).run P w = .ok (.slice none 0 0) w := by
        rcases hs.kind with ⟨e', hk⟩ | hk <;> simp [Builtin.append_, run_underlying ht, run_underlying hk, sizeOf, typeInfo, hi, hs.len, hs.cells]
      rw [hr] at hrun
      injection hrun with _ h
      subst h
      exact Nat.le_refl _
    · have hr := run_append_grow_src (P := P) w t tx ty e i z ht hi hz none 0 0 [] (run_firstCells_none w.drew i.size 0 0 0) x m news hs (by omega) (by omega)
        (growslice_fits (by omega) hbytes)
      rw [hr] at hrun
      injection hrun with _ h
      subst h
      exact Nat.le_succ _
  · by_cases hroom : n + m ≤ cap
    · have hfit : n * i.size + news.length ≤ cur.size := by rw [hs.newsLen, hcs, ← Nat.add_mul]; exact Nat.mul_le_mul_right _ hroom
      have hst := run_storeCells_at P g (n * i.size) e news 0 cur w hg (by simpa using hfit) hs.one
      simp only [Nat.add_zero] at hst
      have hr : (Builtin.append_ #[t, tx] ty #[.slice (some ⟨g, 0, none⟩) n cap, x]).run P w =
          .ok (.slice (some ⟨g, 0, none⟩) (n + m) cap) (w.setRow g (cur.toList.take (n * i.size) ++ news ++ cur.toList.drop (n * i.size + news.length)).toArray) := by
        rcases hs.kind with ⟨e', hk⟩ | hk <;> simp [Builtin.append_, run_underlying ht, run_underlying hk, sizeOf, typeInfo, hi, hs.len, hroom, hs.cells, Addr.add_lit, hst]
      rw [hr] at hrun
      injection hrun with _ h
      subst h
      exact Nat.le_refl _
    · have holds : ∀ j u, xs[j]? = some u → w.cell? ((⟨g, 0, none⟩ : Addr).add j) = some u := hown.cells (g := g) rfl
      have hr := run_append_grow_src (P := P) w t tx ty e i z ht hi hz (some ⟨g, 0, none⟩) n cap xs (run_firstCells_some w.drew i.size n ⟨g, 0, none⟩ n cap xs hown.1 (by simpa using holds)) x m news hs (by omega) (by omega)
        (growslice_fits (by omega) hbytes)
      rw [hr] at hrun
      injection hrun with _ h
      subst h
      exact Nat.le_succ _
theorem appV1_drawn {w : World} {lo : Nat} {v : Value} {xs : List V} (h : OwnV lo w v xs) (x : V) {n : Nat} (hn : n = w.heap.size) (hb : xs.length ≤ 4000000000000) (hlo : lo ≤ w.heap.size) {v' : Value} {w' : World}
    (hr : (Builtin.append_ #[42, 42] 42 #[v, .slice (some ⟨n, 0, none⟩) 1 1]).run Try.prog (w.alloc (.cells #[.int .i64 x.kind, .int .i64 x.n, .string ⟨x.s.toArray⟩] 24)) = .ok v' w') : w.drawn ≤ w'.drawn := by
  subst hn
  have hB : Below w.heap.size w (w.alloc (.cells (V.enc x).toArray 24)) := (Below.refl _ _).alloc (Nat.le_refl _) _
  obtain ⟨i0, hi, hz0, hz1, hz2⟩ := info_parts infoV
  have hc := CellsAt.newAt w (V.enc x) 24 rfl
  have hs : Src Try.prog 3 42 (.slice (some ⟨w.heap.size, 0, none⟩) 1 1) [x].length ([x].flatMap V.enc) (w.alloc (.cells (V.enc x).toArray 24)) :=
    Src.ofSlice _ Try.underlying42 _ _ _ _ (by simp [V.enc]) (fun j u hu => by rw [Addr.add_lit]; exact hc j u (by simpa using hu)) (fun u hu => by
      rw [List.flatMap_cons, List.flatMap_nil, List.append_nil] at hu
      exact one3 x u hu)
  exact run_app_drawn (w := w.alloc (.cells (V.enc x).toArray 24)) lo _ _ _ _ i0 _ 3 32 Try.underlying42 hi hz0 hz1 hz2 rfl v xs.length _ (Own.kept h hB) _ _ _ hs (by simp only [List.length_cons, List.length_nil, maxLen]; omega) (by simp only [List.length_cons, List.length_nil]; omega) hr
/-- What leaves all old blocks alone, and takes no draw back. -/
theorem Gw.of {w w' : World} (hB : Below w.heap.size w w') (hd : w.drawn ≤ w'.drawn) : Gw w w' := by
  refine ⟨w'.drawn - w.drawn, w'.heap.extract w.heap.size w'.heap.size, ?_⟩
  obtain ⟨h1, h2, h3, h4, h5⟩ := hB
  have hh : w'.heap = w.heap ++ w'.heap.extract w.heap.size w'.heap.size := by
    apply Array.ext_getElem?
    intro k
    by_cases hk : k < w.heap.size
    · rw [Array.getElem?_append_left hk]; exact h5 k hk
    · rw [Array.getElem?_append_right (by omega)]
      by_cases hk2 : k < w'.heap.size
      · simp [hk2, show k - w.heap.size < w'.heap.size - w.heap.size by omega, show w.heap.size + (k - w.heap.size) = k by omega]
      · rw [Array.getElem?_eq_none (by omega), Array.getElem?_eq_none (by simp; omega)]
  cases w with
  | mk heap tape drawn os output =>
    cases w' with
    | mk heap' tape' drawn' os' output' =>
      simp only at *
      subst h1 h2 h3
      simp only [grow, World.drewN]
      rw [← hh]
      congr 1
      omega
theorem Gw.drawn {w w' : World} (h : Gw w w') : w.drawn ≤ w'.drawn := by
  obtain ⟨q, os, rfl⟩ := h
  exact Nat.le_add_right _ _
set_option maxRecDepth 100000 in
set_option maxHeartbeats 2000000 in
theorem key_any (lo hi lo2 hi2 : Nat) (x : List V) (at' : List Int) (vx va : Value) (w : World) (hx : Row1 lo hi w vx x) (hhi : hi ≤ w.heap.size) (ha : Ints lo2 hi2 w va at') (hhi2 : hi2 ≤ w.heap.size) (hok : AtOk x.length at') (hlen : at'.length ≤ 1000000000000) (R : Ending → World → Prop)
    (hR : ∀ w' v', Gw w w' → OwnV w.heap.size w' v' (pickL x at') → R (.returned v') w') : Calls Try.prog 103 #[vx, va] w R := by
  have HR := Lib.hid hR
  have Hx := Lib.hid hx
  have Ha := Lib.hid ha
  have Hok := Lib.hid hok
  obtain ⟨ax, cx, rfl, -, -, -, -⟩ := hx.form
  obtain ⟨aa, ca, rfl, -, -, -, -⟩ := ha.form
  have hxl := hx.len
  clear hR hx ha hok
  go_enter Try.func103, Try.ntmps103
  go_wp2_with fail
  go_loopw [5, 10] (fun t5 t10 wr => ∃ (k : Nat), k ≤ at'.length ∧ t10 = .int .i64 k ∧ OwnV w.heap.size wr t5 (pickL x (at'.take k)) ∧ Below w.heap.size w wr ∧ Hid (w.drawn ≤ wr.drawn)) (fun _ t10 _ => at'.length - (intOf t10).toNat)
  case atStart => exact ⟨0, Nat.zero_le _, rfl, Own.nil _ _ _ _ _, Below.refl _ _, Lib.hid (Nat.le_refl _)⟩
  case round =>
    obtain ⟨k, hk, rfl, hown, hB, HD⟩ := hrel
    obtain ⟨wo, ewo⟩ : ∃ x, x = wr := ⟨_, rfl⟩
    subst ewo
    have Hown := Lib.hid hown
    have HB := Lib.hid hB
    have hz := hB.size
    have kk0 : (0 : Int) ≤ (k : Int) := by omega
    obtain ⟨po, cap, hpo⟩ := Own.slice hown
    clear hown hB
    have Hkl : Hid ((pickL x (at'.take k)).length = k) := Lib.hid <| by unfold pickL; rw [List.length_map, List.length_take]; omega
    by_cases hlt : k < at'.length
    · have kkl : (k : Int) < (at'.length : Int) := by omega
      obtain ⟨b, o, rfl, hb, hat⟩ := Ints.at (Sl.below Ha.out Ints.loc HB.out hhi2) (by omega) (by omega)
      have g0 := hat k hlt wo (Below.refl _ _)
      obtain ⟨q, hq⟩ : ∃ q : Nat, at'[k] = q := ⟨at'[k].toNat, by have := Hok.out _ (List.getElem_mem hlt); omega⟩
      have hqx : q < x.length := by have := (Hok.out _ (List.getElem_mem hlt)).2; omega
      have Hst : Hid (pickL x (at'.take (k + 1)) = pickL x (at'.take k) ++ [x[q]]) := Lib.hid (by
        unfold pickL
        rw [List.take_succ_eq_append_getElem hlt, List.map_append, List.map_cons, List.map_nil, hq, Int.toNat_natCast]
        congr 2
        exact getDS x _ q hqx)
      obtain ⟨b2, o2, rfl, hb2, hat2⟩ := Row1.at (Sl.below Hx.out Row1.loc HB.out hhi) (by omega) (by omega)
      obtain ⟨z0, z1, z2⟩ := (hat2 q hqx wo (Below.refl _ _)).c3
      have qq0 : (0 : Int) ≤ (q : Int) := by omega
      have qql : (q : Int) < (x.length : Int) := by omega
      rw [hq] at g0
      clear hq hat hat2
      generalize x[q] = y at *
      obtain ⟨v3, w3, hr3, ho3, ha3⟩ := appV1 Hown.out y rfl (by rw [Hkl.out]; omega) (by omega)
      have HD3 := Lib.hid (Nat.le_trans HD.out (appV1_drawn Hown.out y rfl (by rw [Hkl.out]; omega) (by omega) hr3))
      have HO3 := Lib.hid ho3
      have HB3 := Lib.hid (HB.out.trans (ha3.below (B := w.heap.size) (by omega) (fun q e => (Own.lt Hown.out q e).1)))
      clear ho3 ha3
      subst hpo
      go_wp2_with (at_builtin; refine AtApp.of ?_)
      refine AtApp.go hr3 rfl rfl rfl rfl ?_
      go_wp2_with fail
      go_roundw
      case rel => exact ⟨k + 1, by omega, by go_num, by rw [Hst.out]; exact HO3.out, HB3.out, HD3⟩
      case measure => simp [intOf]; omega
    · obtain rfl : k = at'.length := by omega
      have hO := Hown.out
      rw [List.take_length] at hO
      have hr := HR.out wo _ (Gw.of HB.out HD.out) hO
      clear hO
      subst hpo
      go_wp2_with fail
      first | exact hr | exact fin hr rfl
end Go.Proofs.Ytpncblagjkbemaa
end

/- How two rows' keys stand, as the closure of fold.groups says it. (Printed by fldb.py.) -/
section
set_option linter.unusedVariables false
set_option linter.unusedSimpArgs false
namespace Go.Proofs.Ytpncblagjkbemaa
open Go.RowKit Go.Sort Go.Shelf
set_option linter.unusedVariables false
set_option linter.unusedSimpArgs false
set_option maxRecDepth 100000 in
set_option maxHeartbeats 2000000 in
theorem cmpKey_any (lo hi lo2 hi2 la ha bt : Nat) (x y : List V) (at' : List Int) (vx vy va : Value) (w : World) (hx : Row1 lo hi w vx x) (hhi : hi ≤ w.heap.size) (hy : Row1 lo2 hi2 w vy y) (hhi2 : hi2 ≤ w.heap.size) (hb : Blk w bt [va] 84) (hat : Ints la ha w va at') (hha : ha ≤ w.heap.size) (hokx : AtOk x.length at') (hoky : AtOk y.length at') (hlen : at'.length ≤ 1000000000000) (R : Ending → World → Prop)
    (hR : ∀ w', Gw w w' → R (.returned (.int .i64 (cmpR (pickL x at') (pickL y at')))) w') : Calls Try.prog 102 #[vx, vy, .pointer (some ⟨bt, 0, none⟩)] w R := by
  have HR := Lib.hid hR
  have Hx := Lib.hid hx
  have Hy := Lib.hid hy
  have Hat := Lib.hid hat
  have Hokx := Lib.hid hokx
  have Hoky := Lib.hid hoky
  have Hb := Lib.hid hb
  obtain ⟨ax, cx, rfl, -, -, -, -⟩ := hx.form
  obtain ⟨ay, cy, rfl, -, -, -, -⟩ := hy.form
  obtain ⟨aa, ca, rfl, -, -, -, -⟩ := hat.form
  have c0 := hb.cells.c1
  clear hR hx hy hat hokx hoky hb
  go_enter Try.func102, Try.ntmps102
  go_wp2_with fail
  refine wp_region_held_drew (S := fun w' => Gw w w') (by kernel_rfl) ((Gw.refl _).drew) (fun hHeld => ?_)
  refine wpAnyH_take (i := 0) (v := .slice ax x.length cx) rfl (by kernel_rfl) (by kernel_rfl) (by kernel_rfl) (fun _ _ _ h => h) (Or.inl ⟨by rfl, ?_⟩) hHeld ?_
  · intro w' hSw; go_simp
  try simp only [Act.put, List.getElem_toArray, List.getElem_cons_succ, List.getElem_cons_zero, List.setIfInBounds_toArray, List.set_cons_zero, List.set_cons_succ]
  refine wpAnyH_take (i := 1) (v := .slice aa at'.length ca) rfl (by kernel_rfl) (by kernel_rfl) (by kernel_rfl) (fun _ _ _ h => h) (Or.inl ⟨by rfl, ?_⟩) hHeld ?_
  · intro w' hSw; have kx := ((Hb.out.below hSw.below (by have := Hb.out.lt; omega)).cells).c1; go_simp
  try simp only [Act.put, List.getElem_toArray, List.getElem_cons_succ, List.getElem_cons_zero, List.setIfInBounds_toArray, List.set_cons_zero, List.set_cons_succ]
  refine wpAnyH_take (i := 3) (v := .slice ay y.length cy) rfl (by kernel_rfl) (by kernel_rfl) (by kernel_rfl) (fun _ _ _ h => h) (Or.inl ⟨by rfl, ?_⟩) hHeld ?_
  · intro w' hSw; go_simp
  try simp only [Act.put, List.getElem_toArray, List.getElem_cons_succ, List.getElem_cons_zero, List.setIfInBounds_toArray, List.set_cons_zero, List.set_cons_succ]
  refine wpAnyH_take (i := 4) (v := .slice aa at'.length ca) rfl (by kernel_rfl) (by kernel_rfl) (by kernel_rfl) (fun _ _ _ h => h) (Or.inl ⟨by rfl, ?_⟩) hHeld ?_
  · intro w' hSw; have kx := ((Hb.out.below hSw.below (by have := Hb.out.lt; omega)).cells).c1; go_simp
  try simp only [Act.put, List.getElem_toArray, List.getElem_cons_succ, List.getElem_cons_zero, List.setIfInBounds_toArray, List.set_cons_zero, List.set_cons_succ]
  refine wpAnyH_ready (rs := [2]) (by kernel_rfl) (by simp) ?_
  refine allCall (f := 103) (args := #[.slice ax x.length cx, .slice aa at'.length ca]) rfl (by kernel_rfl) (by kernel_rfl) ?_ AllReadyH.nil
  refine key_any lo hi la ha x at' _ _ w.drew (Sl.below Hx.out Row1.loc ((Below.refl _ _).drew) hhi) hhi (Sl.below Hat.out Ints.loc ((Below.refl _ _).drew) hha) hha Hokx.out hlen _ (fun w1 v1 hg1 ho1 => ?_)
  obtain ⟨p1, c1, rfl⟩ := Own.slice ho1
  have hG1 : Gw w w1 := ((Gw.refl _).drew).trans hg1
  have HG1 := Lib.hid hG1
  have HO1 : Hid (OwnV w.heap.size w1 _ _) := Lib.hid ho1
  refine ⟨_, rfl, hG1, ?_⟩
  clear hHeld
  have hHeld := hG1
  clear ho1 hg1 hG1
  try simp only [Act.put, List.getElem_toArray, List.getElem_cons_succ, List.getElem_cons_zero, List.setIfInBounds_toArray, List.set_cons_zero, List.set_cons_succ]
  refine wpAnyH_ready (rs := [5]) (by kernel_rfl) (by simp) ?_
  refine allCall (f := 103) (args := #[.slice ay y.length cy, .slice aa at'.length ca]) rfl (by kernel_rfl) (by kernel_rfl) ?_ AllReadyH.nil
  refine key_any lo2 hi2 la ha y at' _ _ w1 (Sl.below Hy.out Row1.loc HG1.out.below hhi2) (by have := HG1.out.size; omega) (Sl.below Hat.out Ints.loc HG1.out.below hha) (by have := HG1.out.size; omega) Hoky.out hlen _ (fun w2 v2 hg2 ho2 => ?_)
  obtain ⟨p2, c2, rfl⟩ := Own.slice ho2
  have hG2 : Gw w w2 := HG1.out.trans hg2
  have HG2 := Lib.hid hG2
  have HG12 := Lib.hid hg2
  have HO2 : Hid (OwnV w1.heap.size w2 _ _) := Lib.hid ho2
  refine ⟨_, rfl, hG2, ?_⟩
  clear hHeld
  have hHeld := hG2
  clear ho2 hg2 hG2
  try simp only [Act.put, List.getElem_toArray, List.getElem_cons_succ, List.getElem_cons_zero, List.setIfInBounds_toArray, List.set_cons_zero, List.set_cons_succ]
  refine wpAnyH_ready (rs := [6]) (by kernel_rfl) (by simp) ?_
  refine allCall (f := 24) (args := #[.slice p1 (pickL x at').length c1, .slice p2 (pickL y at').length c2]) rfl (by kernel_rfl) (by kernel_rfl) ?_ AllReadyH.nil
  refine rowsCompare_any _ _ _ _ (pickL x at') (pickL y at') _ _ w2 (OwnV.sl (Own.kept HO1.out HG12.out.below)) (OwnV.sl HO2.out) (Nat.le_refl _) (Nat.le_refl _) _ (fun w3 hg3 => ?_)
  have hG3 : Gw w w3 := HG2.out.trans hg3
  have HG3 := Lib.hid hG3
  refine ⟨_, rfl, hG3, ?_⟩
  clear hHeld
  have hHeld := hG3
  clear hg3 hG3
  try simp only [Act.put, List.getElem_toArray, List.getElem_cons_succ, List.getElem_cons_zero, List.setIfInBounds_toArray, List.set_cons_zero, List.set_cons_succ]
  refine wpAnyH_take (i := 7) (v := .int .i64 (cmpR (pickL x at') (pickL y at'))) rfl (by kernel_rfl) (by kernel_rfl) (by kernel_rfl) (fun _ _ _ h => h) (Or.inl ⟨by rfl, ?_⟩) hHeld ?_
  · intro w' hSw; go_simp
  try simp only [Act.put, List.getElem_toArray, List.getElem_cons_succ, List.getElem_cons_zero, List.setIfInBounds_toArray, List.set_cons_zero, List.set_cons_succ]
  refine wpAnyH_done (by kernel_rfl) ?_ _
  clear hHeld
  have hr := HR.out w3 HG3.out
  go_wp2_with fail
  first | exact hr | exact fin hr rfl
end Go.Proofs.Ytpncblagjkbemaa
end

/- The program's Select: what it asks may keep a state of its own. (Printed by rowse.py.) -/
section
set_option linter.unusedVariables false
set_option linter.unusedSimpArgs false
namespace Go.Proofs.Ytpncblagjkbemaa
open Go.RowKit
set_option linter.unusedVariables false
set_option linter.unusedSimpArgs false

theorem OwnR.keptOnly {A : Nat → Prop} {lo : Nat} {w w' : World} {v : Value} {hs : List Value} {xs : List (List V)} (h : OwnR lo w v hs xs) (hO : Only A w w') (hA : ∀ b, A b → b < lo) : OwnR lo w' v hs xs :=
  ⟨Own.same h.own (fun g e => hO.block g (Own.lt h.own g e).2 (fun a => by have := hA g a; have := (Own.lt h.own g e).1; omega)), h.len,
    fun i hi h2 => Own.same (h.row i hi h2) (fun g e => hO.block g (Own.lt (h.row i hi h2) g e).2 (fun a => by have := hA g a; have := (Own.lt (h.row i hi h2) g e).1; omega)), h.apart⟩
theorem Only.into2 {A A' : Nat → Prop} {w W W1 : World} (h1 : Only A w W) (h2 : Only A' W W1) (hA : ∀ b, b < w.heap.size → A' b → A b) : Only A w W1 :=
  ⟨h2.os.trans h1.os, h2.tape.trans h1.tape, h2.output.trans h1.output, Nat.le_trans h1.size h2.size, fun k hk hn => (h2.block k (Nat.lt_of_lt_of_le hk h1.size) (fun e => hn (hA k hk e))).trans (h1.block k hk hn)⟩
end Go.Proofs.Ytpncblagjkbemaa
end

/- The program's Select. (Printed by rowsl.py.) -/
section
set_option linter.unusedVariables false
set_option linter.unusedSimpArgs false
namespace Go.Proofs.Ytpncblagjkbemaa
open Go.RowKit
set_option linter.unusedVariables false
set_option linter.unusedSimpArgs false

end Go.Proofs.Ytpncblagjkbemaa
end

/- What is too great for the law; the document's relation of the program's. -/
section
set_option linter.unusedVariables false
set_option linter.unusedSimpArgs false
namespace Go.Proofs.Ytpncblagjkbemaa
open Go.RowKit
set_option linter.unusedVariables false
set_option linter.unusedSimpArgs false

end Go.Proofs.Ytpncblagjkbemaa
end

/- A relation's own copy. -/
section
set_option linter.unusedVariables false
set_option linter.unusedSimpArgs false
namespace Go.Proofs.Ytpncblagjkbemaa
open Go.RowKit
set_option linter.unusedVariables false
set_option linter.unusedSimpArgs false

theorem Own.apartT {α β : Type} {enc : α → List Value} {enc' : β → List Value} {e e' : TypeId} {size size' lo lo' : Nat} {w : World} {v v' : Value} {xs : List α} {ys : List β} (h : Own enc e size lo w v xs) (h' : Own enc' e' size' lo' w v' ys) (ht : e ≠ e') {k : Nat} (hk : v.ownBlock = some k) : v'.ownBlock ≠ some k := by
  rcases h.2 with ⟨rfl, -⟩ | ⟨g, cap, cur, rfl, -, hg, -⟩
  · cases hk
  · have e1 : g = k := by simpa [Value.ownBlock] using hk
    subst e1
    exact Own.ne_blk h' (cs := cur.toList) (by unfold Blk; simpa using hg) ht
end Go.Proofs.Ytpncblagjkbemaa
end

/- The document's Same on relations that are alike. (Printed by rown.py.) -/
section
set_option linter.unusedVariables false
set_option linter.unusedSimpArgs false
namespace Go.Proofs.Ytpncblagjkbemaa
open Go.RowKit
set_option linter.unusedVariables false
set_option linter.unusedSimpArgs false

theorem cmpR_self (x : List V) : cmpR x x = 0 := by rw [cmpR_cmp.self]
set_option maxRecDepth 100000 in
set_option maxHeartbeats 4000000 in
theorem Same_any (lo hi lo2 hi2 lc hc lc2 hc2 : Nat) (cols : List S) (l : List (List V)) (ca cb la lb : Value) (w : World) (hca : Strs lc hc w ca cols) (hcb : Strs lc2 hc2 w cb cols) (hla : Rws lo hi w la l) (hlb : Rws lo2 hi2 w lb l) (h1 : hc ≤ w.heap.size) (h2 : hc2 ≤ w.heap.size) (h3 : hi ≤ w.heap.size) (h4 : hi2 ≤ w.heap.size) (hrs : ∀ x ∈ l, ∀ a ∈ x, a.s.length ≤ 9223372036854775807) (R : Ending → World → Prop)
    (hR : ∀ w', Below w.heap.size w w' → R (.returned (.bool true)) w') : Calls Try.prog 56 #[.agg #[ca, la], .agg #[cb, lb]] w R := by
  have HR := Lib.hid hR
  have HCa := Lib.hid hca
  have HCb := Lib.hid hcb
  have HLa := Lib.hid hla
  have HLb := Lib.hid hlb
  have Hrs := Lib.hid hrs
  obtain ⟨aca, cca, rfl, -, -, -, -⟩ := hca.form
  obtain ⟨acb, ccb, rfl, -, -, -, -⟩ := hcb.form
  obtain ⟨ala, cla, rfl, -, -, -, -⟩ := hla.form
  obtain ⟨alb, clb, rfl, -, -, -, -⟩ := hlb.form
  have hql := hca.len
  have hml := hla.len
  clear hR hca hcb hla hlb hrs
  obtain ⟨q, hq⟩ : ∃ q, q = cols.length := ⟨_, rfl⟩
  obtain ⟨m, hm⟩ : ∃ m, m = l.length := ⟨_, rfl⟩
  rw [← hq, ← hm]
  rw [← hq] at hql
  rw [← hm] at hml
  have Hq := Lib.hid hq
  have Hm := Lib.hid hm
  clear hq hm
  go_enter Try.func56, Try.ntmps56
  go_upto_region 1 with fail
  obtain ⟨w0, hw0⟩ : ∃ w0, w0 = (w.alloc (.cells #[.slice aca q cca, .slice ala m cla] 53)).alloc (.cells #[.slice acb q ccb, .slice alb m clb] 53) := ⟨_, rfl⟩
  have s1 : (w.alloc (.cells #[.slice aca q cca, .slice ala m cla] 53)).heap.size = w.heap.size + 1 := Array.size_push _
  have hB0 : Below w.heap.size w w0 := by
    rw [hw0]
    exact (alloc_below w _).alloc (by rw [s1]; omega) _
  have hz0 : w.heap.size + 1 < w0.heap.size := by
    rw [hw0]
    show _ < (Array.push _ _).size
    rw [Array.size_push, s1]; omega
  have hb1 : Blk w0 w.heap.size [.slice aca q cca, .slice ala m cla] 53 := by
    rw [hw0]
    exact (Blk.new w [.slice aca q cca, .slice ala m cla] _ rfl).alloc _
  have hb2 : Blk w0 (w.heap.size + 1) [.slice acb q ccb, .slice alb m clb] 53 := by
    rw [hw0]
    exact Blk.new _ [.slice acb q ccb, .slice alb m clb] _ s1.symm
  rw [← hw0]
  clear hw0 s1
  have HB0 := Lib.hid hB0
  have HA := Lib.hid hb1
  have HBb := Lib.hid hb2
  obtain ⟨d0, d1⟩ := hb1.cells.c2
  simp only [Nat.zero_add] at d1
  obtain ⟨e0, e1⟩ := hb2.cells.c2
  simp only [Nat.zero_add] at e1
  clear hB0 hb1 hb2
  go_wp2_with fail
  go_loopw [5] (fun t5 wr => ∃ k : Nat, k ≤ q ∧ t5 = .int .i64 k ∧ Below w0.heap.size w0 wr) (fun t5 _ => q - (intOf t5).toNat)
  case atStart => exact ⟨0, Nat.zero_le _, rfl, Below.refl _ _⟩
  case round =>
    obtain ⟨k, hk, rfl, hB⟩ := hrel
    obtain ⟨wo, ewo⟩ : ∃ x, x = wr := ⟨_, rfl⟩
    subst ewo
    have hz := hB.size
    have HB := Lib.hid hB
    have HBw := Lib.hid (HB0.out.trans (hB.mono (by omega)))
    have kk0 : (0 : Int) ≤ (k : Int) := by omega
    have Hb1 := Lib.hid (HA.out.below hB (by omega))
    have Hb2 := Lib.hid (HBb.out.below hB hz0)
    clear hB d0 d1 e0 e1
    obtain ⟨d0, d1⟩ := Hb1.out.cells.c2
    simp only [Nat.zero_add] at d1
    obtain ⟨e0, e1⟩ := Hb2.out.cells.c2
    simp only [Nat.zero_add] at e1
    by_cases hlt : k < q
    · have hltc : k < cols.length := by rw [← Hq.out]; exact hlt
      obtain ⟨ao', cap', e', -, -, -, hc⟩ := (Sl.below HCa.out Strs.loc HBw.out h1).form
      injection e' with e1' e2' e3'
      subst e1' e3'
      obtain ⟨bx, ox, rfl, hb1, hb2, hcc⟩ := hc k hltc
      obtain ⟨cs, _, hcs, rfl⟩ := hcc k hltc
      have gx := hcs.c1
      rw [Nat.mul_one] at gx
      clear hc hcc hcs
      obtain ⟨ao', cap', e', -, -, -, hc⟩ := (Sl.below HCb.out Strs.loc HBw.out h2).form
      injection e' with e1' e2' e3'
      subst e1' e3'
      obtain ⟨by_, oy, rfl, hb3, hb4, hcc⟩ := hc k hltc
      obtain ⟨cs, _, hcs, rfl⟩ := hcc k hltc
      have gy := hcs.c1
      rw [Nat.mul_one] at gy
      clear hc hcc hcs
      generalize cols[k] = c at *
      have kkl : (k : Int) < (q : Int) := by omega
      go_upto_region 6 with fail
      refine wp_region_held_drew (S := fun w' => w' = wo.drew) (by kernel_rfl) rfl (fun hHeld => ?_)
      refine wpAnyH_take (i := 0) (v := .pointer (some ⟨w.heap.size, 0, none⟩)) rfl (by kernel_rfl) (by kernel_rfl) (by kernel_rfl) (fun _ _ _ h => h) (Or.inl ⟨by rfl, ?_⟩) hHeld ?_
      · intro w' hSw; subst hSw; go_simp <;> omega
      try simp only [Act.put, List.getElem_toArray, List.getElem_cons_succ, List.getElem_cons_zero, List.setIfInBounds_toArray, List.set_cons_zero, List.set_cons_succ]
      refine wpAnyH_take (i := 1) (v := .slice (some ⟨bx, ox, none⟩) q cca) rfl (by kernel_rfl) (by kernel_rfl) (by kernel_rfl) (fun _ _ _ h => h) (Or.inl ⟨by rfl, ?_⟩) hHeld ?_
      · intro w' hSw; subst hSw; have kx := d0; go_simp
      try simp only [Act.put, List.getElem_toArray, List.getElem_cons_succ, List.getElem_cons_zero, List.setIfInBounds_toArray, List.set_cons_zero, List.set_cons_succ]
      refine wpAnyH_take (i := 2) (v := .int .i64 ((k : Int))) rfl (by kernel_rfl) (by kernel_rfl) (by kernel_rfl) (fun _ _ _ h => h) (Or.inl ⟨by rfl, ?_⟩) hHeld ?_
      · intro w' hSw; subst hSw; go_simp <;> omega
      try simp only [Act.put, List.getElem_toArray, List.getElem_cons_succ, List.getElem_cons_zero, List.setIfInBounds_toArray, List.set_cons_zero, List.set_cons_succ]
      refine wpAnyH_take (i := 3) (v := .pointer (some ⟨bx, ox + k, none⟩)) rfl (by kernel_rfl) (by kernel_rfl) (by kernel_rfl) (fun _ _ _ h => h) (Or.inl ⟨by rfl, ?_⟩) hHeld ?_
      · intro w' hSw; subst hSw; go_simp <;> omega
      try simp only [Act.put, List.getElem_toArray, List.getElem_cons_succ, List.getElem_cons_zero, List.setIfInBounds_toArray, List.set_cons_zero, List.set_cons_succ]
      refine wpAnyH_take (i := 4) (v := .string ⟨c.toArray⟩) rfl (by kernel_rfl) (by kernel_rfl) (by kernel_rfl) (fun _ _ _ h => h) (Or.inl ⟨by rfl, ?_⟩) hHeld ?_
      · intro w' hSw; subst hSw; have kx := gx; go_simp
      try simp only [Act.put, List.getElem_toArray, List.getElem_cons_succ, List.getElem_cons_zero, List.setIfInBounds_toArray, List.set_cons_zero, List.set_cons_succ]
      refine wpAnyH_take (i := 5) (v := .pointer (some ⟨w.heap.size + 1, 0, none⟩)) rfl (by kernel_rfl) (by kernel_rfl) (by kernel_rfl) (fun _ _ _ h => h) (Or.inl ⟨by rfl, ?_⟩) hHeld ?_
      · intro w' hSw; subst hSw; go_simp <;> omega
      try simp only [Act.put, List.getElem_toArray, List.getElem_cons_succ, List.getElem_cons_zero, List.setIfInBounds_toArray, List.set_cons_zero, List.set_cons_succ]
      refine wpAnyH_take (i := 6) (v := .slice (some ⟨by_, oy, none⟩) q ccb) rfl (by kernel_rfl) (by kernel_rfl) (by kernel_rfl) (fun _ _ _ h => h) (Or.inl ⟨by rfl, ?_⟩) hHeld ?_
      · intro w' hSw; subst hSw; have kx := e0; go_simp
      try simp only [Act.put, List.getElem_toArray, List.getElem_cons_succ, List.getElem_cons_zero, List.setIfInBounds_toArray, List.set_cons_zero, List.set_cons_succ]
      refine wpAnyH_take (i := 7) (v := .int .i64 ((k : Int))) rfl (by kernel_rfl) (by kernel_rfl) (by kernel_rfl) (fun _ _ _ h => h) (Or.inl ⟨by rfl, ?_⟩) hHeld ?_
      · intro w' hSw; subst hSw; go_simp <;> omega
      try simp only [Act.put, List.getElem_toArray, List.getElem_cons_succ, List.getElem_cons_zero, List.setIfInBounds_toArray, List.set_cons_zero, List.set_cons_succ]
      refine wpAnyH_take (i := 8) (v := .pointer (some ⟨by_, oy + k, none⟩)) rfl (by kernel_rfl) (by kernel_rfl) (by kernel_rfl) (fun _ _ _ h => h) (Or.inl ⟨by rfl, ?_⟩) hHeld ?_
      · intro w' hSw; subst hSw; go_simp <;> omega
      try simp only [Act.put, List.getElem_toArray, List.getElem_cons_succ, List.getElem_cons_zero, List.setIfInBounds_toArray, List.set_cons_zero, List.set_cons_succ]
      refine wpAnyH_take (i := 9) (v := .string ⟨c.toArray⟩) rfl (by kernel_rfl) (by kernel_rfl) (by kernel_rfl) (fun _ _ _ h => h) (Or.inl ⟨by rfl, ?_⟩) hHeld ?_
      · intro w' hSw; subst hSw; have kx := gy; go_simp
      try simp only [Act.put, List.getElem_toArray, List.getElem_cons_succ, List.getElem_cons_zero, List.setIfInBounds_toArray, List.set_cons_zero, List.set_cons_succ]
      refine wpAnyH_take (i := 10) (v := .bool false) rfl (by kernel_rfl) (by kernel_rfl) (by kernel_rfl) (fun _ _ _ h => h) (Or.inl ⟨by rfl, ?_⟩) hHeld ?_
      · intro w' hSw; subst hSw; go_simp <;> omega
      try simp only [Act.put, List.getElem_toArray, List.getElem_cons_succ, List.getElem_cons_zero, List.setIfInBounds_toArray, List.set_cons_zero, List.set_cons_succ]
      refine wpAnyH_done (by kernel_rfl) ?_ _
      clear hHeld
      go_wp2_with fail
      go_roundw
      case rel => exact ⟨k + 1, by omega, by go_num, HB.out.drew⟩
      case measure => simp [intOf]; omega
    · obtain rfl : k = q := by omega
      go_upto_region 8 with fail
      go_wp2_with fail
      go_loopw [6] (fun t6 wr => ∃ k : Nat, k ≤ m ∧ t6 = .int .i64 k ∧ Below w0.heap.size w0 wr) (fun t6 _ => m - (intOf t6).toNat)
      case atStart => exact ⟨0, Nat.zero_le _, rfl, HB.out⟩
      case round =>
        clear HB HBw Hb1 Hb2 d0 d1 e0 e1 hz kk0
        obtain ⟨k, hk, rfl, hB⟩ := hrel
        obtain ⟨wo, ewo⟩ : ∃ x, x = wr := ⟨_, rfl⟩
        subst ewo
        have hz := hB.size
        have HB := Lib.hid hB
        have HBw := Lib.hid (HB0.out.trans (hB.mono (by omega)))
        have kk0 : (0 : Int) ≤ (k : Int) := by omega
        have Hb1 := Lib.hid (HA.out.below hB (by omega))
        have Hb2 := Lib.hid (HBb.out.below hB hz0)
        clear hB
        have hl1 : w.heap.size < wo.heap.size := by omega
        have hl2 : w.heap.size + 1 < wo.heap.size := by omega
        obtain ⟨d0, d1⟩ := Hb1.out.cells.c2
        simp only [Nat.zero_add] at d1
        by_cases hlt : k < m
        · have hltl : k < l.length := by rw [← Hm.out]; exact hlt
          obtain ⟨ao', cap', e', -, -, -, hc⟩ := (Sl.below HLa.out rowE_loc HBw.out h3).form
          injection e' with e1' e2' e3'
          subst e1' e3'
          obtain ⟨bx, ox, rfl, hb1, hb2, hcc⟩ := hc k hltl
          obtain ⟨cs, _, hcs, sv, rfl, hsv⟩ := hcc k hltl
          have Hca := Lib.hid hcs
          have Hrx := Lib.hid hsv
          obtain ⟨ax, cx, rfl, -, -, -, -⟩ := hsv.form
          clear hc hcc hcs hsv
          obtain ⟨ao', cap', e', -, -, -, hc⟩ := (Sl.below HLb.out rowE_loc HBw.out h4).form
          injection e' with e1' e2' e3'
          subst e1' e3'
          obtain ⟨by_, oy, rfl, hb3, hb4, hcc⟩ := hc k hltl
          obtain ⟨cs, _, hcs, sv, rfl, hsv⟩ := hcc k hltl
          have Hcb := Lib.hid hcs
          have Hry := Lib.hid hsv
          obtain ⟨ay, cy, rfl, -, -, -, -⟩ := hsv.form
          clear hc hcc hcs hsv
          have hbxw : bx < wo.heap.size := by omega
          have hbyw : by_ < wo.heap.size := by omega
          have Hsx := Lib.hid (Hrs.out _ (List.getElem_mem hltl))
          generalize l[k] = x at *
          have kkl : (k : Int) < (m : Int) := by omega
          go_upto_region 11 with fail
          have hS0 : Below wo.heap.size wo wo.drew := (Below.refl _ _).drew
          refine wp_region_held_drew (S := fun w' => Below wo.heap.size wo w') (by kernel_rfl) hS0 (fun hHeld => ?_)
          refine wpAnyH_take (i := 0) (v := .pointer (some ⟨w.heap.size, 1, none⟩)) rfl (by kernel_rfl) (by kernel_rfl) (by kernel_rfl) (fun _ _ _ h => h) (Or.inl ⟨by rfl, ?_⟩) hHeld ?_
          · intro w' hSw; go_simp
          try simp only [Act.put, List.getElem_toArray, List.getElem_cons_succ, List.getElem_cons_zero, List.setIfInBounds_toArray, List.set_cons_zero, List.set_cons_succ]
          refine wpAnyH_take (i := 1) (v := .slice (some ⟨bx, ox, none⟩) m cla) rfl (by kernel_rfl) (by kernel_rfl) (by kernel_rfl) (fun _ _ _ h => h) (Or.inl ⟨by rfl, ?_⟩) hHeld ?_
          · intro w' hSw; obtain ⟨z0, z1⟩ := (Hb1.out.below hSw hl1).cells.c2; simp only [Nat.zero_add] at z1; go_simp
          try simp only [Act.put, List.getElem_toArray, List.getElem_cons_succ, List.getElem_cons_zero, List.setIfInBounds_toArray, List.set_cons_zero, List.set_cons_succ]
          refine wpAnyH_take (i := 2) (v := .int .i64 ((k : Int))) rfl (by kernel_rfl) (by kernel_rfl) (by kernel_rfl) (fun _ _ _ h => h) (Or.inl ⟨by rfl, ?_⟩) hHeld ?_
          · intro w' hSw; go_simp
          try simp only [Act.put, List.getElem_toArray, List.getElem_cons_succ, List.getElem_cons_zero, List.setIfInBounds_toArray, List.set_cons_zero, List.set_cons_succ]
          refine wpAnyH_take (i := 3) (v := .pointer (some ⟨bx, ox + k, none⟩)) rfl (by kernel_rfl) (by kernel_rfl) (by kernel_rfl) (fun _ _ _ h => h) (Or.inl ⟨by rfl, ?_⟩) hHeld ?_
          · intro w' hSw; go_simp
          try simp only [Act.put, List.getElem_toArray, List.getElem_cons_succ, List.getElem_cons_zero, List.setIfInBounds_toArray, List.set_cons_zero, List.set_cons_succ]
          refine wpAnyH_take (i := 4) (v := .slice ax x.length cx) rfl (by kernel_rfl) (by kernel_rfl) (by kernel_rfl) (fun _ _ _ h => h) (Or.inl ⟨by rfl, ?_⟩) hHeld ?_
          · intro w' hSw; have kx := (Hca.out.agree (.below hSw (Nat.le_refl _)) (Nat.zero_le _) hbxw).c1; rw [Nat.mul_one] at kx; go_simp
          try simp only [Act.put, List.getElem_toArray, List.getElem_cons_succ, List.getElem_cons_zero, List.setIfInBounds_toArray, List.set_cons_zero, List.set_cons_succ]
          refine wpAnyH_take (i := 5) (v := .pointer (some ⟨w.heap.size + 1, 1, none⟩)) rfl (by kernel_rfl) (by kernel_rfl) (by kernel_rfl) (fun _ _ _ h => h) (Or.inl ⟨by rfl, ?_⟩) hHeld ?_
          · intro w' hSw; go_simp
          try simp only [Act.put, List.getElem_toArray, List.getElem_cons_succ, List.getElem_cons_zero, List.setIfInBounds_toArray, List.set_cons_zero, List.set_cons_succ]
          refine wpAnyH_take (i := 6) (v := .slice (some ⟨by_, oy, none⟩) m clb) rfl (by kernel_rfl) (by kernel_rfl) (by kernel_rfl) (fun _ _ _ h => h) (Or.inl ⟨by rfl, ?_⟩) hHeld ?_
          · intro w' hSw; obtain ⟨z0, z1⟩ := (Hb2.out.below hSw hl2).cells.c2; simp only [Nat.zero_add] at z1; go_simp
          try simp only [Act.put, List.getElem_toArray, List.getElem_cons_succ, List.getElem_cons_zero, List.setIfInBounds_toArray, List.set_cons_zero, List.set_cons_succ]
          refine wpAnyH_take (i := 7) (v := .int .i64 ((k : Int))) rfl (by kernel_rfl) (by kernel_rfl) (by kernel_rfl) (fun _ _ _ h => h) (Or.inl ⟨by rfl, ?_⟩) hHeld ?_
          · intro w' hSw; go_simp
          try simp only [Act.put, List.getElem_toArray, List.getElem_cons_succ, List.getElem_cons_zero, List.setIfInBounds_toArray, List.set_cons_zero, List.set_cons_succ]
          refine wpAnyH_take (i := 8) (v := .pointer (some ⟨by_, oy + k, none⟩)) rfl (by kernel_rfl) (by kernel_rfl) (by kernel_rfl) (fun _ _ _ h => h) (Or.inl ⟨by rfl, ?_⟩) hHeld ?_
          · intro w' hSw; go_simp
          try simp only [Act.put, List.getElem_toArray, List.getElem_cons_succ, List.getElem_cons_zero, List.setIfInBounds_toArray, List.set_cons_zero, List.set_cons_succ]
          refine wpAnyH_take (i := 9) (v := .slice ay x.length cy) rfl (by kernel_rfl) (by kernel_rfl) (by kernel_rfl) (fun _ _ _ h => h) (Or.inl ⟨by rfl, ?_⟩) hHeld ?_
          · intro w' hSw; have kx := (Hcb.out.agree (.below hSw (Nat.le_refl _)) (Nat.zero_le _) hbyw).c1; rw [Nat.mul_one] at kx; go_simp
          try simp only [Act.put, List.getElem_toArray, List.getElem_cons_succ, List.getElem_cons_zero, List.setIfInBounds_toArray, List.set_cons_zero, List.set_cons_succ]
          refine wpAnyH_ready (rs := [10]) (by kernel_rfl) (by simp) ?_
          refine allCall (f := 25) (args := #[.slice ax x.length cx, .slice ay x.length cy]) rfl (by kernel_rfl) (by kernel_rfl) ?_ AllReadyH.nil
          refine refRowsCompare_any lo hi lo2 hi2 x x _ _ wo.drew (Sl.below Hrx.out Row1.loc hS0 (by omega)) (Sl.below Hry.out Row1.loc hS0 (by omega)) (by show hi ≤ wo.heap.size; omega) (by show hi2 ≤ wo.heap.size; omega) Hsx.out Hsx.out _ (fun w5 hB5 => ?_)
          rw [cmpR_self]
          refine ⟨_, rfl, hS0.trans (hB5.mono (Nat.le_refl _)), ?_⟩
          have HB5 := Lib.hid (hS0.trans (hB5.mono (Nat.le_refl _)))
          clear hB5 hHeld
          have hHeld := HB5.out
          try simp only [Act.put, List.getElem_toArray, List.getElem_cons_succ, List.getElem_cons_zero, List.setIfInBounds_toArray, List.set_cons_zero, List.set_cons_succ]
          refine wpAnyH_take (i := 11) (v := .int .i64 0) rfl (by kernel_rfl) (by kernel_rfl) (by kernel_rfl) (fun _ _ _ h => h) (Or.inl ⟨by rfl, ?_⟩) hHeld ?_
          · intro w' hSw; go_simp
          try simp only [Act.put, List.getElem_toArray, List.getElem_cons_succ, List.getElem_cons_zero, List.setIfInBounds_toArray, List.set_cons_zero, List.set_cons_succ]
          refine wpAnyH_done (by kernel_rfl) ?_ _
          clear hHeld
          go_wp2_with fail
          go_roundw
          case rel => exact ⟨k + 1, by omega, by go_num, HB.out.trans (HB5.out.mono hz)⟩
          case measure => simp [intOf]; omega
        · obtain rfl : k = m := by omega
          have llt : ¬ ((k : Nat) : Int) < (k : Int) := by omega
          have hr := HR.out _ HBw.out
          go_wp2_with fail
          first | exact hr | exact fin hr rfl
end Go.Proofs.Ytpncblagjkbemaa
end

/- The law's same on relations that are alike. (Printed by rowo.py.) -/
section
set_option linter.unusedVariables false
set_option linter.unusedSimpArgs false
namespace Go.Proofs.Ytpncblagjkbemaa
open Go.RowKit
set_option linter.unusedVariables false
set_option linter.unusedSimpArgs false

end Go.Proofs.Ytpncblagjkbemaa
end

/- Slices whose memory may be written, whatever it holds. -/
section
set_option linter.unusedVariables false
set_option linter.unusedSimpArgs false
namespace Go.Proofs.Ytpncblagjkbemaa
open Go.RowKit
set_option linter.unusedVariables false
set_option linter.unusedSimpArgs false

/-- v has n elements in a block of its own among lo .. hi that may be written; what it holds is not said. -/
def Shp (e : TypeId) (size lo hi : Nat) (w : World) (v : Value) (n : Nat) : Prop :=
  (n = 0 ∧ v = .slice none 0 0) ∨ ∃ g cap cur, v = .slice (some ⟨g, 0, none⟩) n cap ∧ lo ≤ g ∧ g < hi ∧ n ≤ cap ∧ cap ≤ 9223372036854775807 ∧ w.heap[g]? = some (.cells cur e) ∧ n * size ≤ cur.size
theorem heap_setCell_shape {w : World} {g : Nat} {cur : Array Value} {e : TypeId} (h : w.heap[g]? = some (.cells cur e)) (b i : Nat) (u : Value) : ∃ cur', (w.setCell ⟨b, i, none⟩ u).heap[g]? = some (.cells cur' e) ∧ cur'.size = cur.size := by
  by_cases hg : g = b
  · subst hg
    have hb : Blk w g cur.toList e := by unfold Blk; simpa using h
    have hs := hb.set i u
    unfold Blk at hs
    exact ⟨_, hs, by simp⟩
  · exact ⟨cur, (Below.heap_setCell _ _ _ _ hg).trans h, rfl⟩
theorem Shp.setCell {e : TypeId} {size lo hi : Nat} {w : World} {v : Value} {n : Nat} (h : Shp e size lo hi w v n) (b i : Nat) (u : Value) : Shp e size lo hi (w.setCell ⟨b, i, none⟩ u) v n := by
  rcases h with h | ⟨g, cap, cur, rfl, h1, h2, h3, h4, h5, h6⟩
  · exact .inl h
  · obtain ⟨cur', h5', h6'⟩ := heap_setCell_shape h5 b i u
    exact .inr ⟨g, cap, cur', rfl, h1, h2, h3, h4, h5', by omega⟩
theorem Shp.below {e : TypeId} {size lo hi B : Nat} {w w' : World} {v : Value} {n : Nat} (h : Shp e size lo hi w v n) (hB : Below B w w') (hb : hi ≤ B) : Shp e size lo hi w' v n := by
  rcases h with h | ⟨g, cap, cur, rfl, h1, h2, h3, h4, h5, h6⟩
  · exact .inl h
  · exact .inr ⟨g, cap, cur, rfl, h1, h2, h3, h4, (hB.block g (by omega)).trans h5, h6⟩
/-- A cell of it is there, and may be written. -/
theorem Shp.cell {e : TypeId} {size lo hi : Nat} {w : World} {v : Value} {n : Nat} (h : Shp e size lo hi w v n) {j : Nat} (hj : j < n) : ∃ g cap, v = .slice (some ⟨g, 0, none⟩) n cap ∧ lo ≤ g ∧ g < hi ∧ n ≤ cap ∧ cap ≤ 9223372036854775807 ∧ (∀ i, i < size → ∃ u, w.cell? ⟨g, j * size + i, none⟩ = some u) ∧ ∀ i, w.frozen? ⟨g, i, none⟩ = false := by
  rcases h with ⟨h, -⟩ | ⟨g, cap, cur, rfl, h1, h2, h3, h4, h5, h6⟩
  · omega
  · have hb : Blk w g cur.toList e := by unfold Blk; simpa using h5
    refine ⟨g, cap, rfl, h1, h2, h3, h4, fun i hi => ?_, fun i => hb.free i⟩
    have hlt : j * size + i < cur.toList.length := by
      have := Nat.mul_le_mul_right size (Nat.succ_le_of_lt hj)
      rw [Nat.succ_mul] at this
      rw [Array.length_toList]
      omega
    refine ⟨cur.toList[j * size + i], ?_⟩
    have := hb.cells (j * size + i) cur.toList[j * size + i] (List.getElem?_eq_getElem hlt)
    simpa using this
theorem Shp.ofOwn {α : Type} {enc : α → List Value} {e : TypeId} {size lo : Nat} {w : World} {v : Value} {xs : List α} (h : Own enc e size lo w v xs) : Shp e size lo w.heap.size w v xs.length := by
  have hl := Own.lt h
  rcases h.2 with ⟨ev, hn⟩ | ⟨g, cap, cur, ev, hb, hg, hnc, hcm, hcs, htake⟩
  · exact .inl ⟨hn, ev⟩
  · subst ev
    refine .inr ⟨g, cap, cur, rfl, hb, (hl g rfl).2, hnc, hcm, hg, ?_⟩
    have := Nat.mul_le_mul_right size hnc
    omega
end Go.Proofs.Ytpncblagjkbemaa
end

/- The document's: may a relation be? (Printed by rowv.py.) -/
section
set_option linter.unusedVariables false
set_option linter.unusedSimpArgs false
namespace Go.Proofs.Ytpncblagjkbemaa
open Go.RowKit
set_option linter.unusedVariables false
set_option linter.unusedSimpArgs false

set_option maxRecDepth 100000 in
set_option maxHeartbeats 4000000 in
theorem refMay_any (lo hi lc hc : Nat) (cols : List S) (ac : Option Addr) (cc : Nat) (l : List (List V)) (lv : Value) (w : World) (hcols : Strs lc hc w (.slice ac cols.length cc) cols) (hhc : hc ≤ w.heap.size) (hv : Rws lo hi w lv l) (hhi : hi ≤ w.heap.size) (hrs : ∀ x ∈ l, ∀ a ∈ x, a.s.length ≤ 9223372036854775807) (R : Ending → World → Prop)
    (hR : ∀ w', Below w.heap.size w w' → R (.returned (.bool (mayRel cols l))) w') : Calls Try.prog 37 #[.agg #[.slice ac cols.length cc, lv]] w R := by
  have HR := Lib.hid hR
  have Hv := Lib.hid hv
  have Hc := Lib.hid hcols
  have Hrs := Lib.hid hrs
  obtain ⟨av, cv2, rfl, -, -, -, -⟩ := hv.form
  have hll := hv.len
  clear hR hv hcols hrs
  go_enter Try.func37, Try.ntmps37
  go_upto_region 1 with fail
  have hBa := (Below.refl w.heap.size w).alloc (Nat.le_refl _) (.cells #[.slice ac cols.length cc, .slice av l.length cv2] 53)
  have hba := Blk.new w [.slice ac cols.length cc, .slice av l.length cv2] 53 rfl
  generalize w.alloc (.cells #[.slice ac cols.length cc, .slice av l.length cv2] 53) = w1 at *
  have HBa := Lib.hid hBa
  have Hba := Lib.hid hba
  have hz1 := hBa.size
  have hbl := hba.lt
  obtain ⟨d0, d1⟩ := hba.cells.c2
  simp only [Nat.zero_add] at d1
  clear hBa hba
  go_wp2_with fail
  refine refOnce_any lc hc cols _ _ (Sl.below Hc.out Strs.loc HBa.out hhc) _ ?_
  cases ho : onceB cols
  · have hr := HR.out w1 HBa.out
    rw [show mayRel cols l = false by unfold mayRel; rw [ho]; rfl] at hr
    clear ho
    go_wp2_with fail
    first | exact hr | exact fin hr rfl
  have Ho := Lib.hid ho
  clear ho
  by_cases hgt : 100000 < l.length
  · have hr := HR.out w1 HBa.out
    rw [show mayRel cols l = false by unfold mayRel; rw [decide_eq_false (by omega)]; simp] at hr
    have c1 : (100000 : Int) < (l.length : Int) := by omega
    go_wp2_with fail
    first | exact hr | exact fin hr rfl
  have c1 : ¬ (100000 : Int) < (l.length : Int) := by omega
  go_wp2_with fail
  go_loopw [4] (fun t4 wr => ∃ k : Nat, k ≤ l.length ∧ t4 = .int .i64 k ∧ (∀ i, i < k → mayAt cols l i = true) ∧ Below w1.heap.size w1 wr) (fun t4 _ => l.length - (intOf t4).toNat)
  case atStart => exact ⟨0, Nat.zero_le _, rfl, fun i hi => absurd hi (Nat.not_lt_zero _), Below.refl _ _⟩
  case round =>
    obtain ⟨k, hk, rfl, hok, hB⟩ := hrel
    obtain ⟨wo, ewo⟩ : ∃ x, x = wr := ⟨_, rfl⟩
    subst ewo
    clear d0 d1
    have Hok := Lib.hid hok
    have HB := Lib.hid hB
    have HBw := Lib.hid (HBa.out.trans (hB.mono hz1))
    have hz := HBw.out.size
    have kk0 : (0 : Int) ≤ (k : Int) := by omega
    have Hbo := Lib.hid (Hba.out.below hB hbl)
    obtain ⟨d0, d1⟩ := Hbo.out.cells.c2
    simp only [Nat.zero_add] at d1
    have hzo := hB.size
    clear hB hok
    by_cases hlt : k < l.length
    · have kkl : (k : Int) < (l.length : Int) := by omega
      have Hvl := Lib.hid (Sl.below Hv.out rowE_loc HBw.out hhi)
      obtain ⟨b4, o4, rfl, hb4, hrow4⟩ := Rws.at Hvl.out (by omega) (by omega)
      obtain ⟨p2, c2, g2, r2⟩ := hrow4 k hlt
      have G2 := Lib.hid g2
      have R2 := Lib.hid r2
      have M2 := Lib.hid (Hrs.out _ (List.getElem_mem hlt))
      have hxl := r2.len
      by_cases hne : l[k].length = cols.length
      · have He : Hid (l[k].length = cols.length) := Lib.hid hne
        have c3 : ((l[k].length : Int) != (cols.length : Int)) = false := by simp; omega
        by_cases hk0 : k = 0
        · have Hk0 : Hid (k = 0) := Lib.hid hk0
          have hnx : Hid (∀ i, i < k + 1 → mayAt cols l i = true) := Lib.hid (fun i hi => by
            obtain rfl : i = 0 := by omega
            unfold mayAt
            rw [getDS l _ 0 (by omega)]
            have := He.out
            subst hk0
            simp [this])
          have c4 : ((k : Int) == 0) = true := by simp; omega
          clear hrow4 g2 r2 hne hk0
          generalize l[k] = xb at *
          go_upto_region 7 with fail
          skip
          refine wp_region_held_drew (S := fun w' => w' = wo.drew) (by kernel_rfl) rfl (fun hHeld => ?_)
          refine wpAnyH_take (i := 0) (v := .pointer (some ⟨w.heap.size, 1, none⟩)) rfl (by kernel_rfl) (by kernel_rfl) (by kernel_rfl) (fun _ _ _ h => h) (Or.inl ⟨by rfl, ?_⟩) hHeld ?_
          · intro w' hSw; subst hSw; go_simp <;> omega
          try simp only [Act.put, List.getElem_toArray, List.getElem_cons_succ, List.getElem_cons_zero, List.setIfInBounds_toArray, List.set_cons_zero, List.set_cons_succ]
          refine wpAnyH_take (i := 1) (v := .slice (some ⟨b4, o4, none⟩) l.length cv2) rfl (by kernel_rfl) (by kernel_rfl) (by kernel_rfl) (fun _ _ _ h => h) (Or.inl ⟨by rfl, ?_⟩) hHeld ?_
          · intro w' hSw; subst hSw; have kx := d1; go_simp
          try simp only [Act.put, List.getElem_toArray, List.getElem_cons_succ, List.getElem_cons_zero, List.setIfInBounds_toArray, List.set_cons_zero, List.set_cons_succ]
          refine wpAnyH_take (i := 2) (v := .int .i64 ((k : Int))) rfl (by kernel_rfl) (by kernel_rfl) (by kernel_rfl) (fun _ _ _ h => h) (Or.inl ⟨by rfl, ?_⟩) hHeld ?_
          · intro w' hSw; subst hSw; go_simp <;> omega
          try simp only [Act.put, List.getElem_toArray, List.getElem_cons_succ, List.getElem_cons_zero, List.setIfInBounds_toArray, List.set_cons_zero, List.set_cons_succ]
          refine wpAnyH_take (i := 3) (v := .pointer (some ⟨b4, o4 + k, none⟩)) rfl (by kernel_rfl) (by kernel_rfl) (by kernel_rfl) (fun _ _ _ h => h) (Or.inl ⟨by rfl, ?_⟩) hHeld ?_
          · intro w' hSw; subst hSw; go_simp <;> omega
          try simp only [Act.put, List.getElem_toArray, List.getElem_cons_succ, List.getElem_cons_zero, List.setIfInBounds_toArray, List.set_cons_zero, List.set_cons_succ]
          refine wpAnyH_take (i := 4) (v := .slice p2 xb.length c2) rfl (by kernel_rfl) (by kernel_rfl) (by kernel_rfl) (fun _ _ _ h => h) (Or.inl ⟨by rfl, ?_⟩) hHeld ?_
          · intro w' hSw; subst hSw; have kx := G2.out _ (Below.refl _ _); go_simp
          try simp only [Act.put, List.getElem_toArray, List.getElem_cons_succ, List.getElem_cons_zero, List.setIfInBounds_toArray, List.set_cons_zero, List.set_cons_succ]
          refine wpAnyH_take (i := 5) (v := .int .i64 ((xb.length : Int))) rfl (by kernel_rfl) (by kernel_rfl) (by kernel_rfl) (fun _ _ _ h => h) (Or.inl ⟨by rfl, ?_⟩) hHeld ?_
          · intro w' hSw; subst hSw; go_simp <;> omega
          try simp only [Act.put, List.getElem_toArray, List.getElem_cons_succ, List.getElem_cons_zero, List.setIfInBounds_toArray, List.set_cons_zero, List.set_cons_succ]
          refine wpAnyH_take (i := 6) (v := .pointer (some ⟨w.heap.size, 0, none⟩)) rfl (by kernel_rfl) (by kernel_rfl) (by kernel_rfl) (fun _ _ _ h => h) (Or.inl ⟨by rfl, ?_⟩) hHeld ?_
          · intro w' hSw; subst hSw; go_simp <;> omega
          try simp only [Act.put, List.getElem_toArray, List.getElem_cons_succ, List.getElem_cons_zero, List.setIfInBounds_toArray, List.set_cons_zero, List.set_cons_succ]
          refine wpAnyH_take (i := 7) (v := .slice ac cols.length cc) rfl (by kernel_rfl) (by kernel_rfl) (by kernel_rfl) (fun _ _ _ h => h) (Or.inl ⟨by rfl, ?_⟩) hHeld ?_
          · intro w' hSw; subst hSw; have kx := d0; go_simp
          try simp only [Act.put, List.getElem_toArray, List.getElem_cons_succ, List.getElem_cons_zero, List.setIfInBounds_toArray, List.set_cons_zero, List.set_cons_succ]
          refine wpAnyH_take (i := 8) (v := .int .i64 ((cols.length : Int))) rfl (by kernel_rfl) (by kernel_rfl) (by kernel_rfl) (fun _ _ _ h => h) (Or.inl ⟨by rfl, ?_⟩) hHeld ?_
          · intro w' hSw; subst hSw; go_simp <;> omega
          try simp only [Act.put, List.getElem_toArray, List.getElem_cons_succ, List.getElem_cons_zero, List.setIfInBounds_toArray, List.set_cons_zero, List.set_cons_succ]
          refine wpAnyH_take (i := 9) (v := .bool false) rfl (by kernel_rfl) (by kernel_rfl) (by kernel_rfl) (fun _ _ _ h => h) (Or.inl ⟨by rfl, ?_⟩) hHeld ?_
          · intro w' hSw; subst hSw; go_simp <;> omega
          try simp only [Act.put, List.getElem_toArray, List.getElem_cons_succ, List.getElem_cons_zero, List.setIfInBounds_toArray, List.set_cons_zero, List.set_cons_succ]
          refine wpAnyH_done (by kernel_rfl) ?_ _
          clear hHeld
          go_wp2_with fail
          go_roundw
          case rel => exact ⟨k + 1, by omega, by go_num, hnx.out, HB.out.drew⟩
          case measure => simp [intOf]; omega
        · obtain ⟨j, ej⟩ : ∃ j, j = k - 1 := ⟨_, rfl⟩
          have hjl : j < l.length := by omega
          have hkj : (k : Int) - 1 = (j : Int) := by omega
          have jj0 : (0 : Int) ≤ (j : Int) := by omega
          have jjl : (j : Int) < (l.length : Int) := by omega
          have c4 : ((k : Int) == 0) = false := by simp; omega
          obtain ⟨p1, c1', g1, r1⟩ := hrow4 j hjl
          have G1 := Lib.hid g1
          have R1 := Lib.hid r1
          have M1 := Lib.hid (Hrs.out _ (List.getElem_mem hjl))
          have Hat : Hid (mayAt cols l k = decide (cmpR l[j] l[k] < 0)) := Lib.hid (by
            unfold mayAt
            rw [getDS l _ k hlt, getDS l _ (k - 1) (by omega), He.out]
            subst ej
            simp [hk0])
          have Hno : Hid (mayAt cols l k = false → mayRel cols l = false) := Lib.hid (mayRel_no hlt)
          have Hnx : Hid (mayAt cols l k = true → ∀ i, i < k + 1 → mayAt cols l i = true) := Lib.hid (fun h i hi => by
            by_cases e : i = k
            · rw [e]; exact h
            · exact Hok.out i (by omega))
          clear hrow4 g2 r2 g1 r1 hne ej hk0
          generalize l[k] = xb at *
          generalize l[j] = xa at *
          go_upto_region 7 with fail
          refine wp_region_held_drew (S := fun w' => w' = wo.drew) (by kernel_rfl) rfl (fun hHeld => ?_)
          refine wpAnyH_take (i := 0) (v := .pointer (some ⟨w.heap.size, 1, none⟩)) rfl (by kernel_rfl) (by kernel_rfl) (by kernel_rfl) (fun _ _ _ h => h) (Or.inl ⟨by rfl, ?_⟩) hHeld ?_
          · intro w' hSw; subst hSw; go_simp <;> omega
          try simp only [Act.put, List.getElem_toArray, List.getElem_cons_succ, List.getElem_cons_zero, List.setIfInBounds_toArray, List.set_cons_zero, List.set_cons_succ]
          refine wpAnyH_take (i := 1) (v := .slice (some ⟨b4, o4, none⟩) l.length cv2) rfl (by kernel_rfl) (by kernel_rfl) (by kernel_rfl) (fun _ _ _ h => h) (Or.inl ⟨by rfl, ?_⟩) hHeld ?_
          · intro w' hSw; subst hSw; have kx := d1; go_simp
          try simp only [Act.put, List.getElem_toArray, List.getElem_cons_succ, List.getElem_cons_zero, List.setIfInBounds_toArray, List.set_cons_zero, List.set_cons_succ]
          refine wpAnyH_take (i := 2) (v := .int .i64 ((k : Int))) rfl (by kernel_rfl) (by kernel_rfl) (by kernel_rfl) (fun _ _ _ h => h) (Or.inl ⟨by rfl, ?_⟩) hHeld ?_
          · intro w' hSw; subst hSw; go_simp <;> omega
          try simp only [Act.put, List.getElem_toArray, List.getElem_cons_succ, List.getElem_cons_zero, List.setIfInBounds_toArray, List.set_cons_zero, List.set_cons_succ]
          refine wpAnyH_take (i := 3) (v := .pointer (some ⟨b4, o4 + k, none⟩)) rfl (by kernel_rfl) (by kernel_rfl) (by kernel_rfl) (fun _ _ _ h => h) (Or.inl ⟨by rfl, ?_⟩) hHeld ?_
          · intro w' hSw; subst hSw; go_simp <;> omega
          try simp only [Act.put, List.getElem_toArray, List.getElem_cons_succ, List.getElem_cons_zero, List.setIfInBounds_toArray, List.set_cons_zero, List.set_cons_succ]
          refine wpAnyH_take (i := 4) (v := .slice p2 xb.length c2) rfl (by kernel_rfl) (by kernel_rfl) (by kernel_rfl) (fun _ _ _ h => h) (Or.inl ⟨by rfl, ?_⟩) hHeld ?_
          · intro w' hSw; subst hSw; have kx := G2.out _ (Below.refl _ _); go_simp
          try simp only [Act.put, List.getElem_toArray, List.getElem_cons_succ, List.getElem_cons_zero, List.setIfInBounds_toArray, List.set_cons_zero, List.set_cons_succ]
          refine wpAnyH_take (i := 5) (v := .int .i64 ((xb.length : Int))) rfl (by kernel_rfl) (by kernel_rfl) (by kernel_rfl) (fun _ _ _ h => h) (Or.inl ⟨by rfl, ?_⟩) hHeld ?_
          · intro w' hSw; subst hSw; go_simp <;> omega
          try simp only [Act.put, List.getElem_toArray, List.getElem_cons_succ, List.getElem_cons_zero, List.setIfInBounds_toArray, List.set_cons_zero, List.set_cons_succ]
          refine wpAnyH_take (i := 6) (v := .pointer (some ⟨w.heap.size, 0, none⟩)) rfl (by kernel_rfl) (by kernel_rfl) (by kernel_rfl) (fun _ _ _ h => h) (Or.inl ⟨by rfl, ?_⟩) hHeld ?_
          · intro w' hSw; subst hSw; go_simp <;> omega
          try simp only [Act.put, List.getElem_toArray, List.getElem_cons_succ, List.getElem_cons_zero, List.setIfInBounds_toArray, List.set_cons_zero, List.set_cons_succ]
          refine wpAnyH_take (i := 7) (v := .slice ac cols.length cc) rfl (by kernel_rfl) (by kernel_rfl) (by kernel_rfl) (fun _ _ _ h => h) (Or.inl ⟨by rfl, ?_⟩) hHeld ?_
          · intro w' hSw; subst hSw; have kx := d0; go_simp
          try simp only [Act.put, List.getElem_toArray, List.getElem_cons_succ, List.getElem_cons_zero, List.setIfInBounds_toArray, List.set_cons_zero, List.set_cons_succ]
          refine wpAnyH_take (i := 8) (v := .int .i64 ((cols.length : Int))) rfl (by kernel_rfl) (by kernel_rfl) (by kernel_rfl) (fun _ _ _ h => h) (Or.inl ⟨by rfl, ?_⟩) hHeld ?_
          · intro w' hSw; subst hSw; go_simp <;> omega
          try simp only [Act.put, List.getElem_toArray, List.getElem_cons_succ, List.getElem_cons_zero, List.setIfInBounds_toArray, List.set_cons_zero, List.set_cons_succ]
          refine wpAnyH_take (i := 9) (v := .bool false) rfl (by kernel_rfl) (by kernel_rfl) (by kernel_rfl) (fun _ _ _ h => h) (Or.inl ⟨by rfl, ?_⟩) hHeld ?_
          · intro w' hSw; subst hSw; go_simp <;> omega
          try simp only [Act.put, List.getElem_toArray, List.getElem_cons_succ, List.getElem_cons_zero, List.setIfInBounds_toArray, List.set_cons_zero, List.set_cons_succ]
          refine wpAnyH_done (by kernel_rfl) ?_ _
          clear hHeld
          go_upto_region 10 with fail
          have hS0 : Below wo.heap.size wo wo.drew.drew := (Below.refl _ _).drew.drew
          refine wp_region_held_drew (S := fun w' => Below wo.heap.size wo w') (by kernel_rfl) hS0 (fun hHeld => ?_)
          refine wpAnyH_take (i := 0) (v := .pointer (some ⟨w.heap.size, 1, none⟩)) rfl (by kernel_rfl) (by kernel_rfl) (by kernel_rfl) (fun _ _ _ h => h) (Or.inl ⟨by rfl, ?_⟩) hHeld ?_
          · intro w' hSw; go_simp
          try simp only [Act.put, List.getElem_toArray, List.getElem_cons_succ, List.getElem_cons_zero, List.setIfInBounds_toArray, List.set_cons_zero, List.set_cons_succ]
          refine wpAnyH_take (i := 1) (v := .slice (some ⟨b4, o4, none⟩) l.length cv2) rfl (by kernel_rfl) (by kernel_rfl) (by kernel_rfl) (fun _ _ _ h => h) (Or.inl ⟨by rfl, ?_⟩) hHeld ?_
          · intro w' hSw; obtain ⟨z0, z1⟩ := (Hbo.out.below hSw (by omega)).cells.c2; simp only [Nat.zero_add] at z1; go_simp
          try simp only [Act.put, List.getElem_toArray, List.getElem_cons_succ, List.getElem_cons_zero, List.setIfInBounds_toArray, List.set_cons_zero, List.set_cons_succ]
          refine wpAnyH_take (i := 2) (v := .int .i64 ((k : Int))) rfl (by kernel_rfl) (by kernel_rfl) (by kernel_rfl) (fun _ _ _ h => h) (Or.inl ⟨by rfl, ?_⟩) hHeld ?_
          · intro w' hSw; go_simp
          try simp only [Act.put, List.getElem_toArray, List.getElem_cons_succ, List.getElem_cons_zero, List.setIfInBounds_toArray, List.set_cons_zero, List.set_cons_succ]
          refine wpAnyH_take (i := 3) (v := .int .i64 ((j : Int))) rfl (by kernel_rfl) (by kernel_rfl) (by kernel_rfl) (fun _ _ _ h => h) (Or.inl ⟨by rfl, ?_⟩) hHeld ?_
          · intro w' hSw; go_simp; exact wrapOk jj0 (by omega)
          try simp only [Act.put, List.getElem_toArray, List.getElem_cons_succ, List.getElem_cons_zero, List.setIfInBounds_toArray, List.set_cons_zero, List.set_cons_succ]
          refine wpAnyH_take (i := 4) (v := .pointer (some ⟨b4, o4 + j, none⟩)) rfl (by kernel_rfl) (by kernel_rfl) (by kernel_rfl) (fun _ _ _ h => h) (Or.inl ⟨by rfl, ?_⟩) hHeld ?_
          · intro w' hSw; go_simp
          try simp only [Act.put, List.getElem_toArray, List.getElem_cons_succ, List.getElem_cons_zero, List.setIfInBounds_toArray, List.set_cons_zero, List.set_cons_succ]
          refine wpAnyH_take (i := 5) (v := .slice p1 xa.length c1') rfl (by kernel_rfl) (by kernel_rfl) (by kernel_rfl) (fun _ _ _ h => h) (Or.inl ⟨by rfl, ?_⟩) hHeld ?_
          · intro w' hSw; have kx := G1.out w' hSw; go_simp
          try simp only [Act.put, List.getElem_toArray, List.getElem_cons_succ, List.getElem_cons_zero, List.setIfInBounds_toArray, List.set_cons_zero, List.set_cons_succ]
          refine wpAnyH_take (i := 6) (v := .pointer (some ⟨w.heap.size, 1, none⟩)) rfl (by kernel_rfl) (by kernel_rfl) (by kernel_rfl) (fun _ _ _ h => h) (Or.inl ⟨by rfl, ?_⟩) hHeld ?_
          · intro w' hSw; go_simp
          try simp only [Act.put, List.getElem_toArray, List.getElem_cons_succ, List.getElem_cons_zero, List.setIfInBounds_toArray, List.set_cons_zero, List.set_cons_succ]
          refine wpAnyH_take (i := 7) (v := .slice (some ⟨b4, o4, none⟩) l.length cv2) rfl (by kernel_rfl) (by kernel_rfl) (by kernel_rfl) (fun _ _ _ h => h) (Or.inl ⟨by rfl, ?_⟩) hHeld ?_
          · intro w' hSw; obtain ⟨z0, z1⟩ := (Hbo.out.below hSw (by omega)).cells.c2; simp only [Nat.zero_add] at z1; go_simp
          try simp only [Act.put, List.getElem_toArray, List.getElem_cons_succ, List.getElem_cons_zero, List.setIfInBounds_toArray, List.set_cons_zero, List.set_cons_succ]
          refine wpAnyH_take (i := 8) (v := .int .i64 ((k : Int))) rfl (by kernel_rfl) (by kernel_rfl) (by kernel_rfl) (fun _ _ _ h => h) (Or.inl ⟨by rfl, ?_⟩) hHeld ?_
          · intro w' hSw; go_simp
          try simp only [Act.put, List.getElem_toArray, List.getElem_cons_succ, List.getElem_cons_zero, List.setIfInBounds_toArray, List.set_cons_zero, List.set_cons_succ]
          refine wpAnyH_take (i := 9) (v := .pointer (some ⟨b4, o4 + k, none⟩)) rfl (by kernel_rfl) (by kernel_rfl) (by kernel_rfl) (fun _ _ _ h => h) (Or.inl ⟨by rfl, ?_⟩) hHeld ?_
          · intro w' hSw; go_simp
          try simp only [Act.put, List.getElem_toArray, List.getElem_cons_succ, List.getElem_cons_zero, List.setIfInBounds_toArray, List.set_cons_zero, List.set_cons_succ]
          refine wpAnyH_take (i := 10) (v := .slice p2 xb.length c2) rfl (by kernel_rfl) (by kernel_rfl) (by kernel_rfl) (fun _ _ _ h => h) (Or.inl ⟨by rfl, ?_⟩) hHeld ?_
          · intro w' hSw; have kx := G2.out w' hSw; go_simp
          try simp only [Act.put, List.getElem_toArray, List.getElem_cons_succ, List.getElem_cons_zero, List.setIfInBounds_toArray, List.set_cons_zero, List.set_cons_succ]
          refine wpAnyH_ready (rs := [11]) (by kernel_rfl) (by simp) ?_
          refine allCall (f := 25) (args := #[.slice p1 xa.length c1', .slice p2 xb.length c2]) rfl (by kernel_rfl) (by kernel_rfl) ?_ AllReadyH.nil
          refine refRowsCompare_any _ _ _ _ xa xb _ _ wo.drew.drew (Sl.below R1.out Row1.loc hHeld (by omega)) (Sl.below R2.out Row1.loc hHeld (by omega)) (by have := hHeld.size; omega) (by have := hHeld.size; omega) M1.out M2.out _ (fun wq1 hB => ?_)
          refine ⟨_, rfl, hHeld.trans (hB.mono hHeld.size), ?_⟩
          have hHeld2 := hHeld.trans (hB.mono hHeld.size)
          clear hHeld
          have hHeld := hHeld2
          clear hHeld2
          clear hB
          try simp only [Act.put, List.getElem_toArray, List.getElem_cons_succ, List.getElem_cons_zero, List.setIfInBounds_toArray, List.set_cons_zero, List.set_cons_succ]
          refine wpAnyH_take (i := 12) (v := .int .i64 (cmpR xa xb)) rfl (by kernel_rfl) (by kernel_rfl) (by kernel_rfl) (fun _ _ _ h => h) (Or.inl ⟨by rfl, ?_⟩) hHeld ?_
          · intro w' hSw; go_simp
          try simp only [Act.put, List.getElem_toArray, List.getElem_cons_succ, List.getElem_cons_zero, List.setIfInBounds_toArray, List.set_cons_zero, List.set_cons_succ]
          have HH2 := Lib.hid hHeld
          refine wpAnyH_done (by kernel_rfl) ?_ _
          clear hHeld
          have HB5 := Lib.hid (HB.out.trans (HH2.out.mono (by omega)))
          have HB5w := Lib.hid (HBw.out.trans (HH2.out.mono hz))
          by_cases hc0 : cmpR xa xb < 0
          · have hnx := Lib.hid (Hnx.out (by rw [Hat.out]; exact decide_eq_true hc0))
            have c5 : ¬ (0 : Int) ≤ cmpR xa xb := by omega
            clear hc0 Hno Hnx
            generalize cmpR xa xb = cv at *
            go_wp2_with fail
            go_roundw
            case rel => exact ⟨k + 1, by omega, by go_num, hnx.out, HB5.out⟩
            case measure => simp [intOf]; omega
          · have hr := HR.out _ HB5w.out
            rw [Hno.out (by rw [Hat.out]; exact decide_eq_false hc0)] at hr
            have c5 : (0 : Int) ≤ cmpR xa xb := by omega
            clear hc0 Hno Hnx
            generalize cmpR xa xb = cv at *
            go_wp2_with fail
            first | exact hr | exact fin hr rfl
      · have hr := HR.out wo.drew HBw.out.drew
        rw [mayRel_no hlt (by unfold mayAt; rw [getDS l _ k hlt]; simp [hne])] at hr
        have c3 : ((l[k].length : Int) != (cols.length : Int)) = true := by simp; omega
        clear hrow4 g2 r2 hne
        generalize l[k] = xb at *
        go_upto_region 7 with fail
        refine wp_region_held_drew (S := fun w' => w' = wo.drew) (by kernel_rfl) rfl (fun hHeld => ?_)
        refine wpAnyH_take (i := 0) (v := .pointer (some ⟨w.heap.size, 1, none⟩)) rfl (by kernel_rfl) (by kernel_rfl) (by kernel_rfl) (fun _ _ _ h => h) (Or.inl ⟨by rfl, ?_⟩) hHeld ?_
        · intro w' hSw; subst hSw; go_simp <;> omega
        try simp only [Act.put, List.getElem_toArray, List.getElem_cons_succ, List.getElem_cons_zero, List.setIfInBounds_toArray, List.set_cons_zero, List.set_cons_succ]
        refine wpAnyH_take (i := 1) (v := .slice (some ⟨b4, o4, none⟩) l.length cv2) rfl (by kernel_rfl) (by kernel_rfl) (by kernel_rfl) (fun _ _ _ h => h) (Or.inl ⟨by rfl, ?_⟩) hHeld ?_
        · intro w' hSw; subst hSw; have kx := d1; go_simp
        try simp only [Act.put, List.getElem_toArray, List.getElem_cons_succ, List.getElem_cons_zero, List.setIfInBounds_toArray, List.set_cons_zero, List.set_cons_succ]
        refine wpAnyH_take (i := 2) (v := .int .i64 ((k : Int))) rfl (by kernel_rfl) (by kernel_rfl) (by kernel_rfl) (fun _ _ _ h => h) (Or.inl ⟨by rfl, ?_⟩) hHeld ?_
        · intro w' hSw; subst hSw; go_simp <;> omega
        try simp only [Act.put, List.getElem_toArray, List.getElem_cons_succ, List.getElem_cons_zero, List.setIfInBounds_toArray, List.set_cons_zero, List.set_cons_succ]
        refine wpAnyH_take (i := 3) (v := .pointer (some ⟨b4, o4 + k, none⟩)) rfl (by kernel_rfl) (by kernel_rfl) (by kernel_rfl) (fun _ _ _ h => h) (Or.inl ⟨by rfl, ?_⟩) hHeld ?_
        · intro w' hSw; subst hSw; go_simp <;> omega
        try simp only [Act.put, List.getElem_toArray, List.getElem_cons_succ, List.getElem_cons_zero, List.setIfInBounds_toArray, List.set_cons_zero, List.set_cons_succ]
        refine wpAnyH_take (i := 4) (v := .slice p2 xb.length c2) rfl (by kernel_rfl) (by kernel_rfl) (by kernel_rfl) (fun _ _ _ h => h) (Or.inl ⟨by rfl, ?_⟩) hHeld ?_
        · intro w' hSw; subst hSw; have kx := G2.out _ (Below.refl _ _); go_simp
        try simp only [Act.put, List.getElem_toArray, List.getElem_cons_succ, List.getElem_cons_zero, List.setIfInBounds_toArray, List.set_cons_zero, List.set_cons_succ]
        refine wpAnyH_take (i := 5) (v := .int .i64 ((xb.length : Int))) rfl (by kernel_rfl) (by kernel_rfl) (by kernel_rfl) (fun _ _ _ h => h) (Or.inl ⟨by rfl, ?_⟩) hHeld ?_
        · intro w' hSw; subst hSw; go_simp <;> omega
        try simp only [Act.put, List.getElem_toArray, List.getElem_cons_succ, List.getElem_cons_zero, List.setIfInBounds_toArray, List.set_cons_zero, List.set_cons_succ]
        refine wpAnyH_take (i := 6) (v := .pointer (some ⟨w.heap.size, 0, none⟩)) rfl (by kernel_rfl) (by kernel_rfl) (by kernel_rfl) (fun _ _ _ h => h) (Or.inl ⟨by rfl, ?_⟩) hHeld ?_
        · intro w' hSw; subst hSw; go_simp <;> omega
        try simp only [Act.put, List.getElem_toArray, List.getElem_cons_succ, List.getElem_cons_zero, List.setIfInBounds_toArray, List.set_cons_zero, List.set_cons_succ]
        refine wpAnyH_take (i := 7) (v := .slice ac cols.length cc) rfl (by kernel_rfl) (by kernel_rfl) (by kernel_rfl) (fun _ _ _ h => h) (Or.inl ⟨by rfl, ?_⟩) hHeld ?_
        · intro w' hSw; subst hSw; have kx := d0; go_simp
        try simp only [Act.put, List.getElem_toArray, List.getElem_cons_succ, List.getElem_cons_zero, List.setIfInBounds_toArray, List.set_cons_zero, List.set_cons_succ]
        refine wpAnyH_take (i := 8) (v := .int .i64 ((cols.length : Int))) rfl (by kernel_rfl) (by kernel_rfl) (by kernel_rfl) (fun _ _ _ h => h) (Or.inl ⟨by rfl, ?_⟩) hHeld ?_
        · intro w' hSw; subst hSw; go_simp <;> omega
        try simp only [Act.put, List.getElem_toArray, List.getElem_cons_succ, List.getElem_cons_zero, List.setIfInBounds_toArray, List.set_cons_zero, List.set_cons_succ]
        refine wpAnyH_take (i := 9) (v := .bool true) rfl (by kernel_rfl) (by kernel_rfl) (by kernel_rfl) (fun _ _ _ h => h) (Or.inl ⟨by rfl, ?_⟩) hHeld ?_
        · intro w' hSw; subst hSw; go_simp <;> omega
        try simp only [Act.put, List.getElem_toArray, List.getElem_cons_succ, List.getElem_cons_zero, List.setIfInBounds_toArray, List.set_cons_zero, List.set_cons_succ]
        refine wpAnyH_done (by kernel_rfl) ?_ _
        clear hHeld
        go_wp2_with fail
        first | exact hr | exact fin hr rfl
    · have llt : ¬ (k : Int) < (l.length : Int) := by omega
      have hr := HR.out wo HBw.out
      rw [mayRel_yes Ho.out (by omega) (fun i hi => Hok.out i (by omega))] at hr
      go_wp2_with fail
      first | exact hr | exact fin hr rfl
end Go.Proofs.Ytpncblagjkbemaa
end

/- The document's Project, Rename and Has. (Printed by rowy.py.) -/
section
set_option linter.unusedVariables false
set_option linter.unusedSimpArgs false
namespace Go.Proofs.Ytpncblagjkbemaa
open Go.RowKit
set_option linter.unusedVariables false
set_option linter.unusedSimpArgs false
attribute [local go_sem ↓] Go.wp_at_zero Go.wp_at_succ

theorem refMadeP_any (lo hi lc hc : Nat) (cols : List S) (ac : Option Addr) (cc : Nat) (l : List (List V)) (lv : Value) (w : World) (hcols : Strs lc hc w (.slice ac cols.length cc) cols) (hhc : hc ≤ w.heap.size) (hv : Rws lo hi w lv l) (hhi : hi ≤ w.heap.size) (hlen : l.length ≤ 1000000000000) (hrl : ∀ x ∈ l, x.length ≤ 4000000000000) (hrs : ∀ x ∈ l, ∀ a ∈ x, a.s.length ≤ 9223372036854775807) (R : Ending → World → Prop)
    (hR : ∀ w' cv2 lv2, Below w.heap.size w w' → Strs lc hc w' cv2 (okL (madeErr cols l) cols) → Rws w.heap.size w'.heap.size w' lv2 (okL (madeErr cols l) (relCanon l)) → R (.returned (.tuple #[.agg #[cv2, lv2], .int .i64 (madeErr cols l)])) w') :
    Calls Try.prog 74 #[.slice ac cols.length cc, lv] w R := by
  refine refMade_any lo hi cols ac cc l lv w hv hhi hlen hrl hrs R (fun hb w' hB => ?_) (fun h1 h2 w' lv2 hB hO => ?_)
  · have e : madeErr cols l = 140 := if_pos hb
    have := hR w' _ _ hB (by rw [e]; exact Sl.nil _ _ _ _ _) (by rw [e]; exact Sl.nil _ _ _ _ _)
    rw [e] at this
    exact this
  · have e : madeErr cols l = 0 := if_neg (by omega)
    have := hR w' _ lv2 hB (by rw [e]; exact Sl.below hcols Strs.loc hB hhc) (by rw [e]; exact hO)
    rw [e] at this
    exact this
/-- The end of a document's function that hands back a relation. -/
theorem refTail {w5 : World} {b : Nat} {pc pr : Option Addr} {nc nr qc qr : Nat} {x0 x1 : Value} (hb : Blk w5 b [x0, x1] 53) :
    (loadVar 53 ⟨b, 0, none⟩).run Try.prog ((w5.setCell ⟨b, 0, none⟩ (.slice pc nc qc)).setCell ⟨b, 1, none⟩ (.slice pr nr qr)) = .ok (.agg #[.slice pc nc qc, .slice pr nr qr]) ((w5.setCell ⟨b, 0, none⟩ (.slice pc nc qc)).setCell ⟨b, 1, none⟩ (.slice pr nr qr)) ∧
    (∀ lo hi, b < lo ∨ hi ≤ b → Agree lo hi w5 ((w5.setCell ⟨b, 0, none⟩ (.slice pc nc qc)).setCell ⟨b, 1, none⟩ (.slice pr nr qr))) ∧ ((w5.setCell ⟨b, 0, none⟩ (.slice pc nc qc)).setCell ⟨b, 1, none⟩ (.slice pr nr qr)).heap.size = w5.heap.size :=
  ⟨((hb.set 0 (.slice pc nc qc)).set 1 (.slice pr nr qr)).cells.runVar (fun _ => by kernel_rfl) (fun _ => by kernel_rfl), fun lo hi h => (Agree.setCell w5 (p := ⟨b, 0, none⟩) h _).trans (Agree.setCell _ (p := ⟨b, 1, none⟩) h _), by simp⟩
theorem pick_str {x : List V} {ks : List Int} (h : ∀ a ∈ x, a.s.length ≤ 9223372036854775807) : ∀ a ∈ pickL x ks, a.s.length ≤ 9223372036854775807 := by
  intro a ha
  obtain ⟨k, hk, rfl⟩ := List.mem_map.1 ha
  by_cases hl : k.toNat < x.length
  · rw [getDS x _ _ hl]; exact h _ (List.getElem_mem hl)
  · rw [List.getD_eq_getElem?_getD, List.getElem?_eq_none (by omega)]
    exact Nat.zero_le _
theorem pick_len (x : List V) (cols rc : List S) : (pickL x (placesL cols rc)).length = cols.length := by unfold pickL placesL; simp
set_option maxRecDepth 100000 in
set_option maxHeartbeats 4000000 in
theorem refProject_any (lo hi lc hc l2 h2 : Nat) (rc : List S) (ac : Option Addr) (cc : Nat) (l : List (List V)) (lv : Value) (cols : List S) (cv : Value) (w : World) (hrc : Strs lc hc w (.slice ac rc.length cc) rc) (hhc : hc ≤ w.heap.size) (hv : Rws lo hi w lv l) (hhi : hi ≤ w.heap.size) (hcols : Strs l2 h2 w cv cols) (hh2 : h2 ≤ w.heap.size) (hlen : cols.length ≤ 1000000000000) (hll : l.length ≤ 1000000000000) (hrs : ∀ x ∈ l, ∀ a ∈ x, a.s.length ≤ 9223372036854775807) (R : Ending → World → Prop)
    (hR : ∀ w' cv2 lv2, Below w.heap.size w w' → Strs l2 h2 w' cv2 (okL (projErr rc l cols) cols) → Rws w.heap.size w'.heap.size w' lv2 (okL (projErr rc l cols) (relCanon (l.map fun x => pickL x (placesL cols rc)))) → R (.returned (.tuple #[.agg #[cv2, lv2], .int .i64 (projErr rc l cols)])) w') :
    Calls Try.prog 31 #[.agg #[.slice ac rc.length cc, lv], cv] w R := by
  have HR := Lib.hid hR
  have Hv := Lib.hid hv
  have Hrc := Lib.hid hrc
  have Hc := Lib.hid hcols
  have Hrs := Lib.hid hrs
  obtain ⟨av, cv2, rfl, -, -, -, -⟩ := hv.form
  obtain ⟨ak, ck, rfl, -, -, -, -⟩ := hcols.form
  have hkl := hcols.len
  have hrl := hrc.len
  have hlv := hv.len
  clear hR hv hrc hcols hrs
  have hs1 : (w.alloc (.cells #[.slice ac rc.length cc, .slice av l.length cv2] 53)).heap.size = w.heap.size + 1 := by simp
  have hB1 := alloc_below w (.cells #[.slice ac rc.length cc, .slice av l.length cv2] 53)
  have hb1 := Blk.new w [.slice ac rc.length cc, .slice av l.length cv2] 53 rfl
  have hB2 := alloc_below (w.alloc (.cells #[.slice ac rc.length cc, .slice av l.length cv2] 53)) (.cells #[.slice none 0 0, .slice none 0 0] 53)
  have hb2 := Blk.new (w.alloc (.cells #[.slice ac rc.length cc, .slice av l.length cv2] 53)) [.slice none 0 0, .slice none 0 0] 53 hs1.symm
  have hb12 := hb1.below hB2 hb1.lt
  have hB := hB1.trans (hB2.mono hB1.size)
  go_enter Try.func31, Try.ntmps31
  go_upto_region 1 with fail
  generalize (w.alloc (.cells #[.slice ac rc.length cc, .slice av l.length cv2] 53)).alloc (.cells #[.slice none 0 0, .slice none 0 0] 53) = w2 at *
  have HB := Lib.hid hB
  have Hb1 := Lib.hid hb12
  have Hb2 := Lib.hid hb2
  have hz2 := hB.size
  have hl1 := hb12.lt
  have hl2 := hb2.lt
  obtain ⟨c0, c1⟩ := hb12.cells.c2
  simp only [Nat.zero_add] at c1
  clear hB1 hb1 hs1 hB2 hb2 hb12 hB
  go_wp2_with fail
  refine refMay_any lo hi lc hc rc _ _ l _ w2 (Sl.below Hrc.out Strs.loc HB.out hhc) (by omega) (Sl.below Hv.out rowE_loc HB.out hhi) (by omega) Hrs.out _ (fun w5 hB5 => ?_)
  have HB25 := Lib.hid hB5
  have hz5 := hB5.size
  have HB5 := Lib.hid (HB.out.trans (hB5.mono (by omega)))
  have hl25 : w.heap.size + 1 < w5.heap.size := by omega
  have Hb5 := Lib.hid (Hb1.out.below hB5 hl1)
  have Hb6 := Lib.hid (Hb2.out.below hB5 hl2)
  clear hB5 c0 c1
  obtain ⟨c0, c1⟩ := Hb5.out.cells.c2
  simp only [Nat.zero_add] at c1
  go_wp2_with fail
  refine within_any l2 h2 lc hc cols rc _ _ w5 (Sl.below Hc.out Strs.loc HB5.out hh2) (Sl.below Hrc.out Strs.loc HB5.out hhc) _ ?_
  go_wp2_with fail
  refine refOnce_any l2 h2 cols _ w5 (Sl.below Hc.out Strs.loc HB5.out hh2) _ ?_
  cases hm : mayRel rc l
  · obtain ⟨e0, e1⟩ := Hb6.out.cells.c2
    have f0 := Hb6.out.free 0
    have f1 := Hb6.out.free 1
    simp only [Nat.zero_add] at e1
    have he : projErr rc l cols = 2 := by unfold projErr; rw [hm]; rfl
    obtain ⟨t1, t2, t3⟩ := refTail (pc := none) (pr := none) (nc := 0) (nr := 0) (qc := 0) (qr := 0) Hb6.out
    have hr := HR.out _ _ _ ((HB5.out.setCell (p := ⟨w.heap.size + 1, 0, none⟩) (Nat.le_succ _) (.slice none 0 0)).setCell (p := ⟨w.heap.size + 1, 1, none⟩) (Nat.le_succ _) (.slice none 0 0)) (by rw [he]; exact Sl.nil _ _ _ _ _) (by rw [he]; exact Sl.nil _ _ _ _ _)
    rw [he] at hr
    have Hr := Lib.hid hr
    have Ht := Lib.hid t1
    clear hr t1 t2 t3 he hm
    go_wp2_with fail
    exact ret_cell_tmp rfl rfl Ht.out rfl rfl Hr.out
  have Hm := Lib.hid hm
  clear hm
  cases hw : withinB cols rc
  · obtain ⟨e0, e1⟩ := Hb6.out.cells.c2
    have f0 := Hb6.out.free 0
    have f1 := Hb6.out.free 1
    simp only [Nat.zero_add] at e1
    have he : projErr rc l cols = 2 := by unfold projErr; rw [hw, Hm.out]; rfl
    obtain ⟨t1, t2, t3⟩ := refTail (pc := none) (pr := none) (nc := 0) (nr := 0) (qc := 0) (qr := 0) Hb6.out
    have hr := HR.out _ _ _ ((HB5.out.setCell (p := ⟨w.heap.size + 1, 0, none⟩) (Nat.le_succ _) (.slice none 0 0)).setCell (p := ⟨w.heap.size + 1, 1, none⟩) (Nat.le_succ _) (.slice none 0 0)) (by rw [he]; exact Sl.nil _ _ _ _ _) (by rw [he]; exact Sl.nil _ _ _ _ _)
    rw [he] at hr
    have Hr := Lib.hid hr
    have Ht := Lib.hid t1
    clear hr t1 t2 t3 he hw
    go_wp2_with fail
    exact ret_cell_tmp rfl rfl Ht.out rfl rfl Hr.out
  have Hw := Lib.hid hw
  clear hw
  cases hon : onceB cols
  · obtain ⟨e0, e1⟩ := Hb6.out.cells.c2
    have f0 := Hb6.out.free 0
    have f1 := Hb6.out.free 1
    simp only [Nat.zero_add] at e1
    have he : projErr rc l cols = 2 := by unfold projErr; rw [hon, Hm.out, Hw.out]; rfl
    obtain ⟨t1, t2, t3⟩ := refTail (pc := none) (pr := none) (nc := 0) (nr := 0) (qc := 0) (qr := 0) Hb6.out
    have hr := HR.out _ _ _ ((HB5.out.setCell (p := ⟨w.heap.size + 1, 0, none⟩) (Nat.le_succ _) (.slice none 0 0)).setCell (p := ⟨w.heap.size + 1, 1, none⟩) (Nat.le_succ _) (.slice none 0 0)) (by rw [he]; exact Sl.nil _ _ _ _ _) (by rw [he]; exact Sl.nil _ _ _ _ _)
    rw [he] at hr
    have Hr := Lib.hid hr
    have Ht := Lib.hid t1
    clear hr t1 t2 t3 he hon
    go_wp2_with fail
    exact ret_cell_tmp rfl rfl Ht.out rfl rfl Hr.out
  have he : projErr rc l cols = madeErr cols (l.map fun x => pickL x (placesL cols rc)) := by unfold projErr; rw [hon, Hm.out, Hw.out]; rfl
  rw [he] at HR
  clear he hon
  go_upto_region 8 with fail
  go_loopw [9, 10] (fun t9 t10 wr => ∃ (k : Nat) (hs : List Value), k ≤ l.length ∧ t10 = .int .i64 k ∧ OwnR w5.heap.size wr t9 hs ((l.take k).map fun x => pickL x (placesL cols rc)) ∧ Below w5.heap.size w5 wr) (fun _ t10 _ => l.length - (intOf t10).toNat)
  case atStart => exact ⟨0, [], Nat.zero_le _, rfl, OwnR.nil _ _, Below.refl _ _⟩
  case round =>
    obtain ⟨k, hs, hk, rfl, ho, hB⟩ := hrel
    obtain ⟨wo, ewo⟩ : ∃ x, x = wr := ⟨_, rfl⟩
    subst ewo
    have Ho := Lib.hid ho
    have HBo := Lib.hid hB
    have HBw := Lib.hid (HB5.out.trans (hB.mono (by omega)))
    have hzo := hB.size
    have Hbo := Lib.hid (Hb5.out.below hB (by omega))
    have kk0 : (0 : Int) ≤ (k : Int) := by omega
    obtain ⟨po, co, hpo⟩ := Own.slice ho.own
    have Hsl : Hid (hs.length = k) := Lib.hid (by rw [ho.len, List.length_map, List.length_take]; omega)
    clear ho hB c0 c1
    obtain ⟨c0, c1⟩ := Hbo.out.cells.c2
    simp only [Nat.zero_add] at c1
    by_cases hlt : k < l.length
    · have kkl : (k : Int) < (l.length : Int) := by omega
      obtain ⟨b4, o4, rfl, hb4, hrow4⟩ := Rws.at (Sl.below Hv.out rowE_loc HBw.out hhi) (by omega) (by omega)
      obtain ⟨p2, c2, g2, r2⟩ := hrow4 k hlt
      have G2 := Lib.hid g2
      have R2 := Lib.hid r2
      have Hst : Hid ((l.take (k + 1)).map (fun x => pickL x (placesL cols rc)) = (l.take k).map (fun x => pickL x (placesL cols rc)) ++ [pickL l[k] (placesL cols rc)]) := Lib.hid (by rw [List.take_succ_eq_append_getElem hlt, List.map_append]; rfl)
      have Hxl : Hid (l[k].length = rc.length) := Lib.hid (may_len Hm.out _ (List.getElem_mem hlt))
      clear hrow4 g2 r2
      generalize l[k] = xb at *
      subst hpo
      go_upto_region 10 with fail
      have hS0 : Below wo.heap.size wo wo.drew := (Below.refl _ _).drew
      refine wp_region_held_drew (S := fun w' => Below wo.heap.size wo w') (by kernel_rfl) hS0 (fun hHeld => ?_)
      refine wpAnyH_take (i := 0) (v := .pointer (some ⟨w.heap.size, 1, none⟩)) rfl (by kernel_rfl) (by kernel_rfl) (by kernel_rfl) (fun _ _ _ h => h) (Or.inl ⟨by rfl, ?_⟩) hHeld ?_
      · intro w' hSw; go_simp
      try simp only [Act.put, List.getElem_toArray, List.getElem_cons_succ, List.getElem_cons_zero, List.setIfInBounds_toArray, List.set_cons_zero, List.set_cons_succ]
      refine wpAnyH_take (i := 1) (v := .slice (some ⟨b4, o4, none⟩) l.length cv2) rfl (by kernel_rfl) (by kernel_rfl) (by kernel_rfl) (fun _ _ _ h => h) (Or.inl ⟨by rfl, ?_⟩) hHeld ?_
      · intro w' hSw; obtain ⟨z0, z1⟩ := (Hbo.out.below hSw (by omega)).cells.c2; simp only [Nat.zero_add] at z1; go_simp
      try simp only [Act.put, List.getElem_toArray, List.getElem_cons_succ, List.getElem_cons_zero, List.setIfInBounds_toArray, List.set_cons_zero, List.set_cons_succ]
      refine wpAnyH_take (i := 2) (v := .int .i64 ((k : Int))) rfl (by kernel_rfl) (by kernel_rfl) (by kernel_rfl) (fun _ _ _ h => h) (Or.inl ⟨by rfl, ?_⟩) hHeld ?_
      · intro w' hSw; go_simp
      try simp only [Act.put, List.getElem_toArray, List.getElem_cons_succ, List.getElem_cons_zero, List.setIfInBounds_toArray, List.set_cons_zero, List.set_cons_succ]
      refine wpAnyH_take (i := 3) (v := .pointer (some ⟨b4, o4 + k, none⟩)) rfl (by kernel_rfl) (by kernel_rfl) (by kernel_rfl) (fun _ _ _ h => h) (Or.inl ⟨by rfl, ?_⟩) hHeld ?_
      · intro w' hSw; go_simp
      try simp only [Act.put, List.getElem_toArray, List.getElem_cons_succ, List.getElem_cons_zero, List.setIfInBounds_toArray, List.set_cons_zero, List.set_cons_succ]
      refine wpAnyH_take (i := 4) (v := .slice p2 xb.length c2) rfl (by kernel_rfl) (by kernel_rfl) (by kernel_rfl) (fun _ _ _ h => h) (Or.inl ⟨by rfl, ?_⟩) hHeld ?_
      · intro w' hSw; have kx := G2.out w' hSw; go_simp
      try simp only [Act.put, List.getElem_toArray, List.getElem_cons_succ, List.getElem_cons_zero, List.setIfInBounds_toArray, List.set_cons_zero, List.set_cons_succ]
      refine wpAnyH_take (i := 5) (v := .slice ak cols.length ck) rfl (by kernel_rfl) (by kernel_rfl) (by kernel_rfl) (fun _ _ _ h => h) (Or.inl ⟨by rfl, ?_⟩) hHeld ?_
      · intro w' hSw; go_simp
      try simp only [Act.put, List.getElem_toArray, List.getElem_cons_succ, List.getElem_cons_zero, List.setIfInBounds_toArray, List.set_cons_zero, List.set_cons_succ]
      refine wpAnyH_take (i := 6) (v := .pointer (some ⟨w.heap.size, 0, none⟩)) rfl (by kernel_rfl) (by kernel_rfl) (by kernel_rfl) (fun _ _ _ h => h) (Or.inl ⟨by rfl, ?_⟩) hHeld ?_
      · intro w' hSw; go_simp
      try simp only [Act.put, List.getElem_toArray, List.getElem_cons_succ, List.getElem_cons_zero, List.setIfInBounds_toArray, List.set_cons_zero, List.set_cons_succ]
      refine wpAnyH_take (i := 7) (v := .slice ac rc.length cc) rfl (by kernel_rfl) (by kernel_rfl) (by kernel_rfl) (fun _ _ _ h => h) (Or.inl ⟨by rfl, ?_⟩) hHeld ?_
      · intro w' hSw; obtain ⟨z0, z1⟩ := (Hbo.out.below hSw (by omega)).cells.c2; simp only [Nat.zero_add] at z1; go_simp
      try simp only [Act.put, List.getElem_toArray, List.getElem_cons_succ, List.getElem_cons_zero, List.setIfInBounds_toArray, List.set_cons_zero, List.set_cons_succ]
      refine wpAnyH_ready (rs := [8]) (by kernel_rfl) (by simp) ?_
      refine allCall (f := 79) (args := #[.slice p2 xb.length c2, .slice ak cols.length ck, .slice ac rc.length cc]) rfl (by kernel_rfl) (by kernel_rfl) ?_ AllReadyH.nil
      have HBd := Lib.hid (HBw.out.trans (hS0.mono (by omega)))
      refine refPick_any lo hi l2 h2 lc hc xb cols rc _ _ _ wo.drew (Sl.below R2.out Row1.loc hS0 (by omega)) (by show hi ≤ wo.heap.size; omega) (Sl.below Hc.out Strs.loc HBd.out hh2) (by show h2 ≤ wo.heap.size; omega) (Sl.below Hrc.out Strs.loc HBd.out hhc) (by show hc ≤ wo.heap.size; omega) Hw.out Hxl.out hlen _ (fun wq vq hBq hoq => ?_)
      have hBq' : Below wo.heap.size wo wq := hS0.trans hBq
      refine ⟨_, rfl, hBq', ?_⟩
      obtain ⟨py, hpy⟩ : ∃ py, pickL xb (placesL cols rc) = py := ⟨_, rfl⟩
      rw [hpy] at hoq Hst
      obtain ⟨pq, qq, rfl⟩ := Own.slice hoq
      have HBq := Lib.hid hBq'
      have Hoq : Hid (OwnV wo.heap.size wq (.slice pq py.length qq) py) := Lib.hid hoq
      clear hBq' hBq hoq hHeld hpy
      have hHeld := HBq.out
      try simp only [Act.put, List.getElem_toArray, List.getElem_cons_succ, List.getElem_cons_zero, List.setIfInBounds_toArray, List.set_cons_zero, List.set_cons_succ]
      refine wpAnyH_take (i := 9) (v := .slice pq py.length qq) rfl (by kernel_rfl) (by kernel_rfl) (by kernel_rfl) (fun _ _ _ h => h) (Or.inl ⟨by rfl, ?_⟩) hHeld ?_
      · intro w' hSw; go_simp
      try simp only [Act.put, List.getElem_toArray, List.getElem_cons_succ, List.getElem_cons_zero, List.setIfInBounds_toArray, List.set_cons_zero, List.set_cons_succ]
      refine wpAnyH_done (by kernel_rfl) ?_ _
      clear hHeld
      have Ho2 := Lib.hid (Ho.out.kept HBq.out)
      have hzq := HBq.out.size
      have hya : ∀ q, (Value.slice pq py.length qq).ownBlock = some q → (Value.slice po hs.length co).ownBlock ≠ some q := fun q hq2 e => by
        have h1 := (Own.lt Hoq.out q hq2).1
        have h2 := (Own.lt Ho.out.own q e).2
        omega
      obtain ⟨v3, w3, hr3, ho3, ha3⟩ := appH1 Ho2.out.own pq py.length qq rfl (by rw [Hsl.out]; omega) (by omega)
      have HO3 := Lib.hid (Ho2.out.snoc (Own.lower Hoq.out (by omega)) hya ho3 ha3)
      have HB3 := Lib.hid ((HBo.out.trans (HBq.out.mono (by omega))).trans (ha3.below (B := w5.heap.size) (by omega) (fun q e => (Own.lt Ho.out.own q e).1)))
      clear ho3 ha3 hya
      go_wp2_with (at_builtin; refine AtApp.of ?_)
      refine AtApp.go hr3 rfl rfl rfl rfl ?_
      go_wp2_with fail
      go_roundw
      case rel => exact ⟨k + 1, _, by omega, by go_num, by rw [Hst.out]; exact HO3.out, HB3.out⟩
      case measure => simp [intOf]; omega
    · obtain rfl : k = l.length := by omega
      have llt : ¬ ((l.length : Nat) : Int) < (l.length : Int) := by omega
      have hO := Ho.out
      rw [List.take_length] at hO
      have HO := Lib.hid hO
      clear hO
      have hll2 : (l.map fun x => pickL x (placesL cols rc)).length ≤ 1000000000000 := by rw [List.length_map]; exact hll
      have HB5M := Lib.hid HBo.out
      rw [Hsl.out] at hpo
      subst hpo
      go_wp2_with fail
      refine refMadeP_any w5.heap.size wo.heap.size l2 h2 cols _ _ (l.map fun x => pickL x (placesL cols rc)) _ wo (Sl.below Hc.out Strs.loc HBw.out hh2) (by omega) (OwnR.rws HO.out) (Nat.le_refl _) hll2 (fun x hx => by
        obtain ⟨y, hy, rfl⟩ := List.mem_map.1 hx
        rw [pick_len]; omega) (fun x hx => by
        obtain ⟨y, hy, rfl⟩ := List.mem_map.1 hx
        exact pick_str (Hrs.out y hy)) _ (fun w7 cv7 lv7 hB7 hT7 hO7 => ?_)
      generalize hE : madeErr cols (l.map fun x => pickL x (placesL cols rc)) = err at *
      generalize okL err cols = oc at *
      generalize okL err (relCanon (l.map fun x => pickL x (placesL cols rc))) = ol at *
      obtain ⟨p7, q7, rfl, -, -, -, -⟩ := hT7.form
      obtain ⟨p8, q8, rfl, -, -, -, -⟩ := hO7.form
      have hB57 : Below w5.heap.size w5 w7 := HB5M.out.trans (hB7.mono (by omega))
      have hb7 := Hb6.out.below hB57 hl25
      obtain ⟨e0, e1⟩ := hb7.cells.c2
      have f0 := hb7.free 0
      have f1 := hb7.free 1
      simp only [Nat.zero_add] at e1
      obtain ⟨t1, t2, t3⟩ := refTail (pc := p7) (pr := p8) (nc := oc.length) (nr := ol.length) (qc := q7) (qr := q8) hb7
      have hr := HR.out _ _ _ (((HB5.out.trans (hB57.mono (by omega))).setCell (p := ⟨w.heap.size + 1, 0, none⟩) (Nat.le_succ _) (.slice p7 oc.length q7)).setCell (p := ⟨w.heap.size + 1, 1, none⟩) (Nat.le_succ _) (.slice p8 ol.length q8)) (Sl.agree hT7 Strs.loc (t2 _ _ (.inr (by omega)))) (Sl.mono (Sl.agree hO7 rowE_loc (t2 _ _ (.inl (by omega)))) rowE_loc (by omega) (Nat.le_of_eq t3.symm))
      have Hr := Lib.hid hr
      have Ht := Lib.hid t1
      clear hr t1 t2 t3 hb7 hB57 hB7 hT7 hO7
      go_wp2_with fail
      exact ret_cell_tmp rfl rfl Ht.out rfl rfl Hr.out
end Go.Proofs.Ytpncblagjkbemaa
end

/- What RowsPicks asks of each row. -/
section
set_option linter.unusedVariables false
set_option linter.unusedSimpArgs false
namespace Go.Proofs.Ytpncblagjkbemaa
open Go.RowKit
set_option linter.unusedVariables false
set_option linter.unusedSimpArgs false

/-- The state of what is asked: fine, and how often it was asked. -/
structure AskJ (bf ba br lo hi : Nat) (pc av : Option Addr) (nc cc cv : Nat) (l : List (List V)) (k : Nat) (w : World) : Prop where
  fine : Blk w bf [.bool true] 4
  asked : Blk w ba [.int .i64 k] 3
  box : Blk w br [.slice pc nc cc, .slice av l.length cv] 34
  rows : Rws lo hi w (.slice av l.length cv) l
  le : hi ≤ w.heap.size
theorem AskJ.below {bf ba br lo hi : Nat} {pc av : Option Addr} {nc cc cv : Nat} {l : List (List V)} {k B : Nat} {w w' : World} (h : AskJ bf ba br lo hi pc av nc cc cv l k w) (hB : Below B w w') (h1 : bf < B) (h2 : ba < B) (h3 : br < B) (h4 : hi ≤ B) : AskJ bf ba br lo hi pc av nc cc cv l k w' :=
  ⟨h.fine.below hB h1, h.asked.below hB h2, h.box.below hB h3, Sl.below h.rows rowE_loc hB h4, Nat.le_trans h.le hB.size⟩
theorem AskJ.set {bf ba br lo hi : Nat} {pc av : Option Addr} {nc cc cv : Nat} {l : List (List V)} {k : Nat} {w : World} (h : AskJ bf ba br lo hi pc av nc cc cv l k w) {g i : Nat} (u : Value) (h1 : bf < g) (h2 : ba < g) (h3 : br < g) (h4 : hi ≤ g) : AskJ bf ba br lo hi pc av nc cc cv l k (w.setCell ⟨g, i, none⟩ u) :=
  ⟨h.fine.other (by show bf ≠ g; omega) u, h.asked.other (by show ba ≠ g; omega) u, h.box.other (by show br ≠ g; omega) u, Sl.agree h.rows rowE_loc (Agree.setCell w (p := ⟨g, i, none⟩) (.inr h4) u), by rw [show (w.setCell ⟨g, i, none⟩ u).heap.size = w.heap.size by simp]; exact h.le⟩
theorem AskJ.next {bf ba br lo hi : Nat} {pc av : Option Addr} {nc cc cv : Nat} {l : List (List V)} {k : Nat} {w : World} (h : AskJ bf ba br lo hi pc av nc cc cv l k w) (hfa : bf ≠ ba) (hfr : bf ≠ br) (har : ba ≠ br) (hfl : bf < lo ∨ hi ≤ bf) (hal : ba < lo ∨ hi ≤ ba) :
    AskJ bf ba br lo hi pc av nc cc cv l (k + 1) ((w.setCell ⟨bf, 0, none⟩ (.bool true)).setCell ⟨ba, 0, none⟩ (.int .i64 ((k : Int) + 1))) :=
  ⟨(h.fine.set 0 (.bool true)).other (p := ⟨ba, 0, none⟩) hfa _, (h.asked.other (p := ⟨bf, 0, none⟩) (fun e => hfa e.symm) (.bool true)).set 0 (.int .i64 ((k : Int) + 1)), (h.box.other (p := ⟨bf, 0, none⟩) (fun e => hfr e.symm) _).other (p := ⟨ba, 0, none⟩) (fun e => har e.symm) _,
    Sl.agree h.rows rowE_loc ((Agree.setCell w (p := ⟨bf, 0, none⟩) hfl _).trans (Agree.setCell _ (p := ⟨ba, 0, none⟩) hal _)), by simp; exact h.le⟩
end Go.Proofs.Ytpncblagjkbemaa
end

/- The law's told on answers that are alike. (Printed by rowr.py.) -/
section
set_option linter.unusedVariables false
set_option linter.unusedSimpArgs false
namespace Go.Proofs.Ytpncblagjkbemaa
open Go.RowKit
set_option linter.unusedVariables false
set_option linter.unusedSimpArgs false

/-- The blocks that are written over. -/
def TB (ca : Value) (hs : List Value) (b : Nat) : Prop := ca.ownBlock = some b ∨ ∃ h ∈ hs, h.ownBlock = some b
/-- What the walk over a's rows and columns keeps. -/
structure ToldIn (lo hi : Nat) (w wr : World) (hs : List Value) (ns : List Nat) (la ca : Value) (nc : Nat) : Prop where
  own : OwnH lo wr la hs
  len : hs.length = ns.length
  row : ∀ i (h : i < hs.length) (h2 : i < ns.length), Shp 24 3 lo hi wr hs[i] ns[i]
  col : Shp 9 1 lo hi wr ca nc
  box : Blk wr hi [ca, la] 34
  bel : Below lo w wr
  only : Only (TB ca hs) w wr
theorem ToldIn.set {lo hi : Nat} {w wr : World} {hs : List Value} {ns : List Nat} {la ca : Value} {nc : Nat} (h : ToldIn lo hi w wr hs ns la ca nc) {b i : Nat} (u : Value) (h1 : lo ≤ b) (h2 : b < hi) (h3 : la.ownBlock ≠ some b) (h4 : TB ca hs b) : ToldIn lo hi w (wr.setCell ⟨b, i, none⟩ u) hs ns la ca nc :=
  ⟨Own.setOther h.own h3 u, h.len, fun k hk h2 => (h.row k hk h2).setCell b i u, h.col.setCell b i u, h.box.other (by show hi ≠ b; omega) u, h.bel.setCell (p := ⟨b, i, none⟩) h1 u, h.only.trans (Only.setCell wr (p := ⟨b, i, none⟩) h4 u)⟩
/-- A block of relations is not written over. -/
theorem TB.not {lo : Nat} {w : World} {ca la : Value} {hs : List Value} {cols : List S} {l : List (List V)} (hT : OwnT lo w ca cols) (hR : OwnR lo w la hs l) {b : Nat} {cs : List Value} {t : TypeId} (hb : Blk w b cs t) (h1 : t ≠ 9) (h2 : t ≠ 24) : ¬ TB ca hs b := by
  rintro (h | ⟨h, hh, e⟩)
  · exact Own.ne_blk hT hb h1 h
  · obtain ⟨i, hi, rfl⟩ := List.getElem_of_mem hh
    exact Own.ne_blk (hR.row i hi (by rw [← hR.len]; exact hi)) hb h2 e
end Go.Proofs.Ytpncblagjkbemaa
end

/- The law RowsOf, walked. (Printed by rowt.py.) -/
section
set_option linter.unusedVariables false
set_option linter.unusedSimpArgs false
namespace Go.Proofs.Ytpncblagjkbemaa
open Go.RowKit
set_option linter.unusedVariables false
set_option linter.unusedSimpArgs false

end Go.Proofs.Ytpncblagjkbemaa
end
