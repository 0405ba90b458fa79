/- SchemaMakes holds: for any facts, name and number, the call returns true, and the arguments read behind it as before. Condition: none. -/
import Derived.Test.YtkcpanaojehgiaaLift
import Derived.Test.YtkcpanaojehgiaaLiftF
import Derived.Test.YtkcpanaojehgiaaSchM
namespace Go.Proofs.Ytkcpanaojehgiaa.schemaMakes
open Go.ChangeShapes Go.WideShapes Go.ChangeAt Go.RowKit
open Go.ChangeMaps (open_string shut_string)
set_option linter.unusedVariables false

set_option maxRecDepth 100000 in
theorem contract (H : Type) (enc : TypeId × Value → H) (W : World) (base : Nat) (args : Array Value) (ds gs : List (DataW H)) (before : List MemPlace)
    (hval : ∀ (j : Nat) t v, Try.f4.params[j]? = some t → args[j]? = some v → Value.okWide Try.prog W .any base t v)
    (hW : DataW.Whole enc Try.prog Try.f4.params.toList Rows.schemaMakesSpec.vars false W args.toList ds gs before)
    (hwt : (DataW.weightsEach Try.prog (Try.f4.params.toList ++ Rows.schemaMakesSpec.plain.varTypes Try.prog) (ds ++ gs)).all (· ≤ reachBytes) = true) :
    Calls Try.prog 4 args W fun e W' => ∃ v, e = .returned v ∧ Rows.schemaMakesSpec.post enc Try.prog Try.f4 false true false false W args v W' := by
  have hW' := hW
  obtain ⟨p, q, hA0, hV, rfl, hfz, hnd⟩ := hW
  have hA : DataW.TrodAll enc Try.prog W 0 (fun _ => true) true Try.f4.params.toList args.toList ds p := hA0
  rw [Try.params4] at hA hval
  have hAk := hA
  obtain ⟨v0, vs0, d0, ds0, p0, q0, hargs, rfl, rfl, h0, r0⟩ := trodAll_cons hA
  obtain ⟨v1, vs1, d1, ds1, p1, q1, rfl, rfl, rfl, h1, r1⟩ := trodAll_cons r0
  obtain ⟨v2, vs2, d2, ds2, p2, q2, rfl, rfl, rfl, h2, r2⟩ := trodAll_cons r1
  obtain ⟨rfl, rfl, rfl⟩ := trodAll_nil r2
  obtain rfl : args = #[v0, v1, v2] := by cases args; simp_all
  obtain ⟨rfl, rfl⟩ := trodVars_none hV
  obtain ⟨a0, len0, cap0, rfl⟩ := okWide_slice Try.underlying29 (hval 0 29 v0 rfl rfl)
  obtain ⟨n0, h0⟩ := h0
  obtain ⟨x0, s0, o0⟩ := open_sl (α := Ft) (E := ftE) (ok := Ft.ok) Try.underlying29 (size := 6) (by kernel_rfl) (by decide) el_ft (by simpa [Value.cells] using h0)
  obtain ⟨y1, rfl, rfl, rfl, o1⟩ := open_string Try.underlying9 (hval 1 9 v1 rfl rfl) h1
  obtain ⟨x2, rfl, rfl, rfl, o2⟩ := open_int Try.underlying2 (hval 2 2 v2 rfl rfl) h2
  have hm : x0.length ≤ 2000000000000 := by
    obtain ⟨ao, cap, e, -⟩ := s0.form
    injection e with _ e _
    have h9 := sl_many (j := 0) (t := 29) (x := (d0, p0)) (bytes := 72) hwt rfl rfl Try.underlying29 (by kernel_rfl) (by simpa [Value.cells] using h0)
    rw [e] at h9
    omega
  have hy : y1.data.toList.length ≤ 9223372036854775807 := by
    have h9 := sized_string (j := 1) (t := 9) hwt rfl rfl
    have h8 := reachBytes_lt
    omega
  clear hA0
  refine SchemaMakes_any 0 W.heap.size x0 _ y1.data.toList x2 W s0 (Nat.le_refl _) hm (fun x hx => (o0 x hx).2.2.1.2.2) hy _ fun W' bel => ?_
  exact ⟨_, rfl, _, _, _, [], _, [], hW', trodAll_mk1 (shut_bool Try.underlying4 _), trodAll_below laidOut bel _ _ _ _ (by kernel_rfl) hAk, rfl, bel.frame _, fun h => by cases h⟩

set_option maxRecDepth 100000 in
theorem lifted (os : Os) (started : os.Started) (H : Type) (enc : TypeId × Value → H) :
    ReturnsInHanded {} Try.checked os 4 .any (Rows.schemaMakesSpec.pre6 enc Try.prog Try.f4 Rows.schemaMakesRow.domain false) (Rows.schemaMakesSpec.post enc Try.prog Try.f4 false true false false) := by
  refine returnsInHanded_of_change_sized (C := Try.checked) own started (by kernel_rfl) Try.func4
    (ChangeSpec.witness6 (enc := enc) (C := Try.checked) false ⟨#[], #[.slice none 0 0, .string .empty, .int .i64 0], []⟩ 8 (by kernel_rfl) (by kernel_rfl) (by kernel_rfl) (by kernel_rfl)) ?_
  intro W base args ds gs before hval hW _ hwt _
  exact contract H enc W base args ds gs before hval hW hwt

theorem over : Rows.schemaMakesRow.holds Try.pinned (OpenSpec.ofChange Rows.schemaMakesSpec) :=
  OpenClaim.holds_of_wide 4 Try.f4 rfl rfl rfl rfl rfl rfl rfl ⟨rfl, rfl, rfl, rfl, rfl⟩ rfl rfl rfl rfl rfl (by kernel_rfl) Try.func4 (by kernel_rfl)
    (of_decide_eq_true (by kernel_rfl)) (by unfold Func.isWrapper; first | (rw [if_pos (by decide +kernel)]; kernel_rfl) | (rw [if_neg (by decide +kernel)]; exact ⟨rfl, rfl⟩))
    (fun os started H enc _ => lifted os started H enc)

theorem proved : Rows.SchemaMakesSaid := over
end Go.Proofs.Ytkcpanaojehgiaa.schemaMakes
