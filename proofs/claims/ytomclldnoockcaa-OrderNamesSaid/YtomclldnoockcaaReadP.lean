/- What bytes say, as plain data. No program in sight. -/
import Derived.Test.YtomclldnoockcaaKeyP
namespace Go.Proofs.Ytomclldnoockcaa

def val8 (l : List UInt8) : Nat := l.foldl (fun v c => v * 256 + c.toNat) 0
def numI (l : List UInt8) : Int := (val8 l : Int) - 9223372036854775808
theorem val8_snoc (l : List UInt8) (c : UInt8) : val8 (l ++ [c]) = val8 l * 256 + c.toNat := by simp [val8]
theorem val8_lt : ∀ (l : List UInt8), val8 l < 256 ^ l.length := by
  intro l
  have h : ∀ (l : List UInt8) (v : Nat), l.foldl (fun v c => v * 256 + c.toNat) v < (v + 1) * 256 ^ l.length := by
    intro l
    induction l with
    | nil => intro v; simp
    | cons c r ih =>
      intro v
      have hc := c.toNat_lt
      have h1 := ih (v * 256 + c.toNat)
      simp only [List.foldl_cons, List.length_cons]
      refine Nat.lt_of_lt_of_le h1 ?_
      rw [Nat.pow_succ, Nat.mul_comm (256 ^ r.length) 256, ← Nat.mul_assoc]
      exact Nat.mul_le_mul_right _ (by omega)
  have := h l 0
  simpa [val8] using this
/-- A text: what it says, what is left, whether it is broken. -/
def txt : List UInt8 → List UInt8 × List UInt8 × Bool
  | [] => ([], [], true)
  | [c] => if c = 0 then ([], [], true) else ([c], [], true)
  | c :: d :: r =>
    if c = 0 then
      if d = 1 then ([], r, false)
      else if d = 255 then let x := txt r; (0 :: x.1, x.2.1, x.2.2)
      else ([], r, true)
    else let x := txt (d :: r); (c :: x.1, x.2.1, x.2.2)
def chkV (v : V) (rest : List UInt8) : Option (V × List UInt8) := if mayB v then some (v, rest) else none
def oneV : List UInt8 → Option (V × List UInt8)
  | [] => none
  | k :: r =>
    if k = 2 then match r with
      | [] => none
      | c :: t => chkV ⟨2, c.toNat, []⟩ t
    else if k = 3 ∨ k = 4 ∨ k = 7 then
      if (txt r).2.2 then none else chkV ⟨k.toNat, 0, (txt r).1⟩ (txt r).2.1
    else if r.length < 8 then none else chkV ⟨k.toNat, numI (r.take 8), []⟩ (r.drop 8)
def readK : List Bool → List UInt8 → Option (List Pt)
  | [], b => if b.isEmpty then some [] else none
  | true :: ks, b => match oneV b with
    | none => none
    | some (v, r) => (readK ks r).map (⟨true, 0, v⟩ :: ·)
  | false :: ks, b => if b.length < 8 then none else (readK ks (b.drop 8)).map (⟨false, numI (b.take 8), ⟨0, 0, []⟩⟩ :: ·)
theorem txt_length : ∀ (l : List UInt8), (txt l).2.1.length ≤ l.length ∧ (txt l).1.length ≤ l.length
  | [] => by simp [txt]
  | [c] => by unfold txt; split <;> simp
  | c :: d :: r => by
    have h1 := txt_length r
    have h2 := txt_length (d :: r)
    unfold txt
    split
    · split
      · simp; omega
      · split
        · simp; omega
        · simp; omega
    · simp only [List.length_cons] at *; omega
theorem txt_ne (c : UInt8) (r : List UInt8) (h : c ≠ 0) : txt (c :: r) = (c :: (txt r).1, (txt r).2.1, (txt r).2.2) := by
  cases r with
  | nil => simp [txt, h]
  | cons d r => rw [txt]; simp [h]
theorem txt_z : txt [0] = ([], [], true) := by simp [txt]
theorem txt_z1 (r : List UInt8) : txt (0 :: 1 :: r) = ([], r, false) := by rw [txt]; simp
theorem txt_zf (r : List UInt8) : txt (0 :: 255 :: r) = (0 :: (txt r).1, (txt r).2.1, (txt r).2.2) := by rw [txt]; simp
theorem txt_zd (d : UInt8) (r : List UInt8) (h1 : d ≠ 1) (h2 : d ≠ 255) : txt (0 :: d :: r) = ([], r, true) := by rw [txt]; simp [h1, h2]
end Go.Proofs.Ytomclldnoockcaa
