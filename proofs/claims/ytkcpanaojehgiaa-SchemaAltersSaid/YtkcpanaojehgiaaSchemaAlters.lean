/- SchemaAlters holds: for any two lists of attributes the call returns true, and each argument reads behind it as before. Condition: none. -/
import Derived.Test.YtkcpanaojehgiaaLift
import Derived.Test.YtkcpanaojehgiaaAlterLaw
namespace Go.Proofs.Ytkcpanaojehgiaa.schemaAlters
open Go.ChangeShapes Go.WideShapes Go.ChangeAt Go.RowKit
set_option linter.unusedVariables false

set_option maxRecDepth 100000 in
theorem el_attr {H : Type} {enc : TypeId × Value → H} {w : World} (n : Nat) (cs : List Value) (x : DataW H × List MemPlace) (hl : cs.length = 7)
    (h : DataW.trod enc Try.prog w 0 (fun _ => true) true n 24 cs = some x) : ∃ a : Attr, flat Attr.enc 0 w.heap.size w cs a ∧ True := by
  obtain ⟨xs, m, _, _, _, hxl, hf⟩ := DataW.trod_struct Try.underlying24 h
  have k1 : Try.prog.cellsOf 2 = 1 := by kernel_rfl
  have k2 : Try.prog.cellsOf 9 = 1 := by kernel_rfl
  have k3 : Try.prog.cellsOf 3 = 1 := by kernel_rfl
  have k4 : Try.prog.cellsOf 4 = 1 := by kernel_rfl
  match cs, hl with
  | [c0, c1, c2, c3, c4, c5, c6], _ =>
    match xs, hxl with
    | [y0, y1, y2, y3, y4, y5, y6], _ =>
      have g0 := hf 0 _ rfl
      have g1 := hf 1 _ rfl
      have g2 := hf 2 _ rfl
      have g3 := hf 3 _ rfl
      have g4 := hf 4 _ rfl
      have g5 := hf 5 _ rfl
      have g6 := hf 6 _ rfl
      simp [k1, k2, k3, k4] at g0 g1 g2 g3 g4 g5 g6
      obtain ⟨i, e0, -⟩ := DataW.trod_int Try.underlying2 g0
      obtain ⟨s, e1, -⟩ := DataW.trod_string Try.underlying9 g1
      obtain ⟨t, e2, -⟩ := DataW.trod_int Try.underlying3 g2
      obtain ⟨m, e3, -⟩ := DataW.trod_bool Try.underlying4 g3
      obtain ⟨u, e4, -⟩ := DataW.trod_int Try.underlying3 g4
      obtain ⟨p, e5, -⟩ := DataW.trod_bool Try.underlying4 g5
      obtain ⟨q, e6, -⟩ := DataW.trod_bool Try.underlying4 g6
      simp at e0 e1 e2 e3 e4 e5 e6
      exact ⟨⟨i, s.data.toList, t, m, u, p, q⟩, by simp [flat, Attr.enc, *], trivial⟩

instance : Inhabited Attr := ⟨⟨0, [], 0, false, 0, false, false⟩⟩

set_option maxRecDepth 100000 in
theorem lifted (os : Os) (started : os.Started) (H : Type) (enc : TypeId × Value → H) :
    ReturnsInHanded {} Try.checked os 3 .any (Rows.schemaAltersSpec.pre6 enc Try.prog Try.f3 Rows.schemaAltersRow.domain false)
      (Rows.schemaAltersSpec.post enc Try.prog Try.f3 false true false false) := by
  refine returnsInHanded_of_change (C := Try.checked) own started (by kernel_rfl) Try.func3
    (ChangeSpec.witness6 (enc := enc) (C := Try.checked) false ⟨#[], #[.slice none 0 0, .slice none 0 0], []⟩ 8 (by kernel_rfl) (by kernel_rfl) (by kernel_rfl) (by kernel_rfl)) ?_
  intro W base args ds gs before hval0 hW hcnd _
  have hval : ∀ (j : Nat) t v, Try.f3.params[j]? = some t → args[j]? = some v → Value.okWide Try.prog W .any base t v := hval0
  have hW' := hW
  obtain ⟨p, q, hA0, hV, rfl, hfz, hnd⟩ := hW
  have hA : DataW.TrodAll enc Try.prog W 0 (fun _ => true) true Try.f3.params.toList args.toList ds p := hA0
  rw [Try.params3] at hA hval
  have hAk := hA
  obtain ⟨v0, vs0, d0, ds0, p0, q0, hargs, rfl, rfl, h0, r0⟩ := trodAll_cons hA
  obtain ⟨v1, vs1, d1, ds1, p1, q1, rfl, rfl, rfl, h1, r1⟩ := trodAll_cons r0
  obtain ⟨rfl, rfl, rfl⟩ := trodAll_nil r1
  obtain rfl : args = #[v0, v1] := by cases args; simp_all
  obtain ⟨rfl, rfl⟩ := trodVars_none hV
  obtain ⟨a0, len0, cap0, rfl⟩ := okWide_slice Try.underlying22 (hval 0 22 v0 rfl rfl)
  obtain ⟨a1, len1, cap1, rfl⟩ := okWide_slice Try.underlying22 (hval 1 22 v1 rfl rfl)
  obtain ⟨n0, h0⟩ := h0
  obtain ⟨n1, h1⟩ := h1
  obtain ⟨old, s0, -⟩ := open_sl (E := flat Attr.enc) (ok := fun _ => True) Try.underlying22 (size := 7) (by kernel_rfl) (by decide) el_attr (by simpa [Value.cells] using h0)
  obtain ⟨now, s1, -⟩ := open_sl (E := flat Attr.enc) (ok := fun _ => True) Try.underlying22 (size := 7) (by kernel_rfl) (by decide) el_attr (by simpa [Value.cells] using h1)
  clear hA0 hval0
  refine SchemaAlters_any 0 W.heap.size _ _ old now W s0 s1 (Nat.le_refl _) _ fun W' bel => ?_
  exact ⟨_, rfl, _, _, _, [], _, [], hW', trodAll_mk1 (shut_bool Try.underlying4 _), trodAll_below laidOut bel _ _ _ _ (by kernel_rfl) hAk, rfl, bel.frame _, fun h => by cases h⟩

theorem over : Rows.schemaAltersRow.holds Try.pinned (OpenSpec.ofChange Rows.schemaAltersSpec) :=
  OpenClaim.holds_of_wide 3 Try.f3 rfl rfl rfl rfl rfl rfl rfl ⟨rfl, rfl, rfl, rfl, rfl⟩ rfl rfl rfl rfl rfl (by kernel_rfl) Try.func3 (by kernel_rfl)
    (of_decide_eq_true (by kernel_rfl)) (by unfold Func.isWrapper; first | (rw [if_pos (by decide +kernel)]; kernel_rfl) | (rw [if_neg (by decide +kernel)]; exact ⟨rfl, rfl⟩))
    (fun os started H enc _ => lifted os started H enc)

theorem proved : Rows.SchemaAltersSaid := over
end Go.Proofs.Ytkcpanaojehgiaa.schemaAlters
