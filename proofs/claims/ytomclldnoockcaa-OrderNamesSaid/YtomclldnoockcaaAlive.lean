/- daybooklaw02.alive: the chapter's first examples. -/
import Derived.Test.YtomclldnoockcaaWritten
namespace Go.Proofs.Ytomclldnoockcaa
open Go.RowKit

set_option maxRecDepth 100000 in
set_option maxHeartbeats 2000000 in
theorem alive_any (w : World) (R : Ending → World → Prop) (hR : ∀ w', Below w.heap.size w w' → R (.returned (.bool true)) w') : Calls Try.prog 9 #[] w R := by
  go_enter Try.func9, Try.ntmps9
  go_wp2_with fail
  refine Value_any ⟨3, 0, [97, 0]⟩ w (by decide) _ (fun _ w1 v1 hB1 ho => ?_) (fun h => absurd h (by decide))
  have hcv := str ho.bytes
  rw [show encV ⟨3, 0, [97, 0]⟩ = [3, 97, 0, 255, 0, 1] by decide] at hcv
  clear ho
  go_wp2_with fail
  refine Number_any 0 _ _ fun w2 b hB2 hb hblk => ?_
  have hcv2 := str (Bytes.ofCells (c := 8) hblk.cells hb hblk.lt (by rw [num8_length]; omega) (by decide))
  rw [num8_length, show num8 0 = [128, 0, 0, 0, 0, 0, 0, 0] by decide] at hcv2
  have hB := hB1.trans (hB2.mono hB1.size)
  clear hcv hB2 hblk
  go_wp2_with fail
  all_goals first | exact hB | exact fin (hR _ hB) rfl
end Go.Proofs.Ytomclldnoockcaa
