/- Values, as plain data: which may be, and how two stand. No program in sight. -/
import Derived.Lib.Bytealg
import Derived.Test.YtkcpanaojehgiaaBase
namespace Go.Proofs.Ytkcpanaojehgiaa

/-- A value: its kind, its number, its text. -/
structure V where
  kind : Int
  n : Int
  s : List UInt8
deriving DecidableEq
instance : Inhabited V := ⟨⟨0, 0, []⟩⟩
def V.enc (v : V) : List Value := [.int .i64 v.kind, .int .i64 v.n, .string ⟨v.s.toArray⟩]

def icmp (a b : Int) : Int := if a < b then -1 else if b < a then 1 else 0
theorem icmp_lt {a b : Int} (h : a < b) : icmp a b = -1 := by simp [icmp, h]
theorem icmp_gt {a b : Int} (h : b < a) : icmp a b = 1 := by simp [icmp, h]; omega
theorem icmp_eq (a : Int) : icmp a a = 0 := by simp [icmp]
/-- Three numbers: the first that is not 0. -/
def or3 (a b c : Int) : Int := if a ≠ 0 then a else if b ≠ 0 then b else c
def cmpV (a b : V) : Int := or3 (icmp a.kind b.kind) (icmp a.n b.n) (Lib.compareBytes a.s b.s)

def lowB (c : UInt8) : Bool := decide (97 ≤ (c.toNat : Int)) && decide ((c.toNat : Int) ≤ 122)
def digB (c : UInt8) : Bool := decide (48 ≤ (c.toNat : Int)) && decide ((c.toNat : Int) ≤ 57)
/-- A sign of a word, behind its first. -/
def signB (c : UInt8) : Bool := lowB c || digB c || (c.toNat : Int) == 46 || (c.toNat : Int) == 95 || (c.toNat : Int) == 45 || (c.toNat : Int) == 47
def wordB (s : List UInt8) : Bool := decide (1 ≤ (s.length : Int)) && decide ((s.length : Int) ≤ 64) && (s.head?.map lowB).getD false && s.all signB
def mayB (v : V) : Bool :=
  if v.kind = 1 ∨ v.kind = 6 then v.s.isEmpty
  else if v.kind = 2 then v.s.isEmpty && (v.n == 0 || v.n == 1)
  else if v.kind = 5 then v.s.isEmpty && decide (0 ≤ v.n) && decide (v.n < 9007199254740992)
  else if v.kind = 3 ∨ v.kind = 4 then v.n == 0 && decide ((v.s.length : Int) ≤ 1000)
  else if v.kind = 7 then v.n == 0 && wordB v.s
  else false
theorem compareBytes_take (a b : List UInt8) (k : Nat) (h : a.take k = b.take k) (ha : k ≤ a.length) (hb : k ≤ b.length) : Lib.compareBytes a b = Lib.compareBytes (a.drop k) (b.drop k) := by
  induction k generalizing a b with
  | zero => rfl
  | succ k ih =>
    match a, b, ha, hb with
    | x :: a, y :: b, ha, hb =>
      simp only [List.take_succ_cons, List.cons.injEq] at h
      obtain ⟨rfl, h⟩ := h
      simp only [List.drop_succ_cons]
      rw [← ih a b h (by simpa using ha) (by simpa using hb)]
      simp [Lib.compareBytes]
end Go.Proofs.Ytkcpanaojehgiaa
