/- A call of a pair, of any kind. -/
import Derived.Test.YtfmpafheodpfoaaDiskDo
import Derived.Test.YtfmpafheodpfoaaDiskDs
import Derived.Test.YtfmpafheodpfoaaDiskDt
namespace Go.Proofs.Ytfmpafheodpfoaa
open Go.RowKit

theorem do_any (S : Nat → Prop) (lo hi pb m : Nat) (d : Dk) (x : DOp) (cs : List Value) (w : World) (h : PrAt w S pb d) (hb : Bnd d m) (hm : m < 100000) (hx : opE lo hi w cs x) (hhi : hi ≤ w.heap.size) (hap : ∀ k, S k → k < lo ∨ hi ≤ k) (hl : x.data.length ≤ 300)
    (R : Ending → World → Prop) (hR : ∀ w', Only S w w' → PrAt w' (Wid S w.heap.size w'.heap.size) pb (d.act x) → R (.returned (.bool true)) w') :
    Calls Try.prog 22 #[.pointer (some ⟨pb, 0, none⟩), .agg cs.toArray] w R := by
  by_cases h0 : x.kind = 0
  · exact do0_any S lo hi pb m d x cs w h hb hm hx hhi hap hl h0 R hR
  by_cases h1 : x.kind = 1
  · exact do1_any S lo hi pb m d x cs w h hb hm hx hhi hap hl h1 R hR
  by_cases h2 : x.kind = 2
  · exact do2_any S lo hi pb m d x cs w h hb hm hx hhi hap hl h2 R hR
  by_cases h3 : x.kind = 3
  · exact do3_any S lo hi pb m d x cs w h hb hm hx hhi hap hl h3 R hR
  by_cases h4 : x.kind = 4
  · exact do4_any S lo hi pb m d x cs w h hb hm hx hhi hap hl h4 R hR
  by_cases h5 : x.kind = 5
  · exact do5_any S lo hi pb m d x cs w h hb hm hx hhi hap hl h5 R hR
  by_cases h6 : x.kind = 6
  · exact do6_any S lo hi pb m d x cs w h hb hm hx hhi hap hl h6 R hR
  by_cases h7 : x.kind = 7
  · exact do7_any S lo hi pb m d x cs w h hb hm hx hhi hap hl h7 R hR
  · exact dox_any S lo hi pb m d x cs w h hb hm hx hhi hap hl ⟨h0, h1, h2, h3, h4, h5, h6, h7⟩ R hR
/-- A short call, as the statement's last rounds make it: its cells lie nowhere. -/
theorem opE_short (w : World) (k i : Int) : opE 0 0 w [.int .i64 k, .int .i64 i, .int .i64 0, .slice none 0 0, .bool false, .slice none 0 0, .int .i64 0, .int .i64 0] ⟨k, i, 0, [], false, [], 0, 0⟩ := ⟨_, _, rfl, Sl.nil _ _ _ _ _, Sl.nil _ _ _ _ _⟩
end Go.Proofs.Ytfmpafheodpfoaa
