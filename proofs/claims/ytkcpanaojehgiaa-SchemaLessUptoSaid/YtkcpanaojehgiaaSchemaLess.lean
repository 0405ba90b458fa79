/- SchemaLess holds where what it reads is of bulk at most 1048576: for any facts, truth values and spans the call returns true, and the arguments read behind it as before. Condition: the bulk. -/
import Derived.Test.YtkcpanaojehgiaaLift
import Derived.Test.YtkcpanaojehgiaaLiftG
import Derived.Test.YtkcpanaojehgiaaLiftL
namespace Go.Proofs.Ytkcpanaojehgiaa.schemaLessUpto
open Go.ChangeShapes Go.WideShapes Go.ChangeAt Go.RowKit
open Go.ChangeMaps (open_string shut_string)
set_option linter.unusedVariables false

set_option maxRecDepth 100000 in
theorem contract (H : Type) (enc : TypeId × Value → H) (W : World) (base : Nat) (args : Array Value) (ds gs : List (DataW H)) (before : List MemPlace)
    (hval : ∀ (j : Nat) t v, Try.f6.params[j]? = some t → args[j]? = some v → Value.okWide Try.prog W .any base t v)
    (hW : DataW.Whole enc Try.prog Try.f6.params.toList Rows.schemaLessSpec.vars false W args.toList ds gs before) (hk : Rows.uptoSmall H (ds ++ gs) = true) :
    Calls Try.prog 6 args W fun e W' => ∃ v, e = .returned v ∧ Rows.schemaLessSpec.post enc Try.prog Try.f6 false true false false W args v W' := by
  have hW' := hW
  obtain ⟨p, q, hA0, hV, rfl, hfz, hnd⟩ := hW
  have hA : DataW.TrodAll enc Try.prog W 0 (fun _ => true) true Try.f6.params.toList args.toList ds p := hA0
  rw [Try.params6] at hA hval
  have hAk := hA
  obtain ⟨v0, vs0, d0, ds0, p0, q0, hargs, rfl, rfl, h0, r0⟩ := trodAll_cons hA
  obtain ⟨v1, vs1, d1, ds1, p1, q1, rfl, rfl, rfl, h1, r1⟩ := trodAll_cons r0
  obtain ⟨v2, vs2, d2, ds2, p2, q2, rfl, rfl, rfl, h2, r2⟩ := trodAll_cons r1
  obtain ⟨rfl, rfl, rfl⟩ := trodAll_nil r2
  obtain rfl : args = #[v0, v1, v2] := by cases args; simp_all
  obtain ⟨rfl, rfl⟩ := trodVars_none hV
  obtain ⟨a0, len0, cap0, rfl⟩ := okWide_slice Try.underlying29 (hval 0 29 v0 rfl rfl)
  obtain ⟨n0, h0⟩ := h0
  obtain ⟨x0, s0, o0, b0⟩ := open_slB (α := Ft) (E := ftE) (ok := Ft.ok) (f := Ft.big) Try.underlying29 (size := 6) (by kernel_rfl) (by decide) el_ftG (by simpa [Value.cells] using h0)
  obtain ⟨a1, len1, cap1, rfl⟩ := okWide_slice Try.underlying42 (hval 1 42 v1 rfl rfl)
  obtain ⟨n1, h1⟩ := h1
  obtain ⟨x1, s1, o1⟩ := open_sl (α := Bool) (E := flat blE) (ok := fun _ => True) Try.underlying42 (size := 1) (by kernel_rfl) (by decide) el_bl (by simpa [Value.cells] using h1)
  obtain ⟨a2, len2, cap2, rfl⟩ := okWide_slice Try.underlying43 (hval 2 43 v2 rfl rfl)
  obtain ⟨n2, h2⟩ := h2
  obtain ⟨x2, s2, o2⟩ := open_sl (α := Sp) (E := flat Sp.enc) (ok := Sp.ok) Try.underlying43 (size := 2) (by kernel_rfl) (by decide) el_sp (by simpa [Value.cells] using h2)
  clear hA0
  refine SchemaLess_any 0 W.heap.size 0 W.heap.size 0 W.heap.size x0 _ x1 _ x2 _ W s0 (Nat.le_refl _) s1 (Nat.le_refl _) s2 (Nat.le_refl _) (by have h1 := big_len x0; have h2 := bulk_bound hk (d := d0) (by simp); simp only at b0; omega) (fun x hx => (o0 x hx).2.2.1.2.2) (fun x hx => Nat.le_trans (big_sp b0 (bulk_bound hk (d := d0) (by simp)) hx) (by decide)) _ fun W' bel => ?_
  exact ⟨_, rfl, _, _, _, [], _, [], hW', trodAll_mk1 (shut_bool Try.underlying4 _), trodAll_below laidOut bel _ _ _ _ (by kernel_rfl) hAk, rfl, bel.frame _, fun h => by cases h⟩

set_option maxRecDepth 100000 in
theorem lifted (os : Os) (started : os.Started) (H : Type) (enc : TypeId × Value → H) (F : Stop.Interp) :
    ReturnsInHanded {} Try.checked os 6 .any ((Rows.OpenSpec.upto Rows.schemaLessSpec).pre6 enc Try.prog Try.f6 Rows.schemaLessUptoRow.domain false) (((Rows.OpenSpec.upto Rows.schemaLessSpec).at F).post enc Try.prog Try.f6 false true false false) := by
  refine returnsInHanded_of_cond (C := Try.checked) (s := Rows.OpenSpec.upto Rows.schemaLessSpec) (k := Rows.uptoSmall) rfl own started (by kernel_rfl) Try.func6
    (OpenSpec.witness (enc := enc) (C := Try.checked) (s := Rows.OpenSpec.upto Rows.schemaLessSpec) (k := Rows.uptoSmall) rfl false ⟨#[], #[.slice none 0 0, .slice none 0 0, .slice none 0 0], []⟩ 8 (by kernel_rfl) (by kernel_rfl) (by kernel_rfl)
      (x := ([.nil, .nil, .nil], [], [])) (by kernel_rfl) rfl (by kernel_rfl)) ?_
  intro W base args ds gs before hval hW _ hk _
  exact contract H enc W base args ds gs before hval hW hk

theorem over : Rows.schemaLessUptoRow.holds Try.pinned (Rows.OpenSpec.upto Rows.schemaLessSpec) :=
  OpenClaim.holds_of_cond 6 Try.f6 rfl rfl rfl rfl rfl rfl rfl ⟨rfl, rfl, rfl, rfl, rfl⟩ rfl rfl rfl rfl rfl (by kernel_rfl) Try.func6 (by kernel_rfl)
    (of_decide_eq_true (by kernel_rfl)) (by unfold Func.isWrapper; first | (rw [if_pos (by decide +kernel)]; kernel_rfl) | (rw [if_neg (by decide +kernel)]; exact ⟨rfl, rfl⟩))
    (fun os started H enc _ F => lifted os started H enc F)

theorem proved : Rows.SchemaLessUptoSaid := over
end Go.Proofs.Ytkcpanaojehgiaa.schemaLessUpto
