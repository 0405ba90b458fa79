/- Parts: as plain data, and as bytes. No program in sight. -/
import Derived.Test.YtomclldnoockcaaOrderP
namespace Go.Proofs.Ytomclldnoockcaa

structure Pt where
  is : Bool
  n : Int
  v : V
deriving DecidableEq
instance : Inhabited Pt := ⟨⟨false, 0, default⟩⟩
def Pt.enc (p : Pt) : List Value := [.bool p.is, .int .i64 p.n, .int .i64 p.v.kind, .int .i64 p.v.n, .string ⟨p.v.s.toArray⟩]
def sumP : List Pt → Nat
  | [] => 0
  | p :: r => 10 + p.v.s.length + sumP r
theorem sumP_append (a b : List Pt) : sumP (a ++ b) = sumP a + sumP b := by
  induction a with
  | nil => simp [sumP]
  | cons p r ih => simp only [List.cons_append, sumP, ih]; omega
theorem sumP_take_succ (l : List Pt) (k : Nat) (h : k < l.length) : sumP (l.take (k + 1)) = sumP (l.take k) + 10 + l[k].v.s.length := by
  rw [List.take_succ_eq_append_getElem h, sumP_append]
  simp only [sumP]; omega
theorem sumP_take_le (l : List Pt) (k : Nat) : sumP (l.take k) ≤ sumP l := by
  conv => rhs; rw [← List.take_append_drop k l, sumP_append]
  omega
theorem sumP_length (l : List Pt) : 10 * l.length ≤ sumP l := by
  induction l with
  | nil => simp [sumP]
  | cons p r ih => simp only [List.length_cons, sumP]; omega
theorem sumP_part (l : List Pt) (k : Nat) (h : k < l.length) : 10 + l[k].v.s.length ≤ sumP l := by
  have h1 := sumP_take_succ l k h
  have h2 := sumP_take_le l (k + 1)
  omega
def Pt.ok (p : Pt) : Bool := !p.is || mayB p.v
def Pt.bytes (p : Pt) : List UInt8 := if p.is then encV p.v else num8 p.n
def encK (l : List Pt) : List UInt8 := l.flatMap Pt.bytes
theorem encK_take_succ (l : List Pt) (k : Nat) (h : k < l.length) : encK (l.take (k + 1)) = encK (l.take k) ++ l[k].bytes := by
  unfold encK
  rw [List.take_succ_eq_append_getElem h, List.flatMap_append]
  simp only [List.flatMap_cons, List.flatMap_nil, List.append_nil]
theorem encV_length (v : V) : (encV v).length ≤ 2 * v.s.length + 9 := by
  have hb : (body v).length ≤ 2 * v.s.length + 8 := by
    have he : ∀ s : List UInt8, (s.flatMap esc1).length ≤ 2 * s.length := by
      intro s
      induction s with
      | nil => simp
      | cons c r ih =>
        have : (esc1 c).length ≤ 2 := by unfold esc1; split <;> simp
        simp only [List.flatMap_cons, List.length_append, List.length_cons]; omega
    unfold body
    split
    · simp
    · split
      · have := he v.s
        simp only [esc, List.length_append, List.length_cons, List.length_nil]; omega
      · rw [num8_length]; omega
  simp only [encV, List.length_cons]; omega
theorem bytes_length (p : Pt) : p.bytes.length ≤ 2 * (10 + p.v.s.length) := by
  unfold Pt.bytes
  split
  · have := encV_length p.v; omega
  · rw [num8_length]; omega
theorem encK_length (l : List Pt) : (encK l).length ≤ 2 * sumP l := by
  induction l with
  | nil => simp [encK, sumP]
  | cons p r ih =>
    have h : encK (p :: r) = p.bytes ++ encK r := rfl
    have := bytes_length p
    rw [h, List.length_append]; simp only [sumP]; omega
end Go.Proofs.Ytomclldnoockcaa
