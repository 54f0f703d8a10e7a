/- Zalloc: ZallocSweeps, the law. -/
import Derived.Test.YtifemhfpcichfaaZvL

set_option linter.unusedSimpArgs false
set_option linter.unusedVariables false
set_option maxHeartbeats 4000000
namespace Go.Proofs.Ytifemhfpcichfaa
open Go.Av
theorem law_sweeps (zb : UInt8) (l : List ActD) (s : Stt) (hI : ∀ z ∈ s.zs.flatten, I64 z) : Pure Try.prog 8 [.int .u8 zb.toNat, .sl 7 (AcL l), s.sv] (.sv (.bool true)) := by
  refine pure_true fun mu w vs hm hr => ?_
  obtain ⟨lp, lc, nx, tp, tn, tc, cp, cn, cc, rfl, h1, h2⟩ := law_args hm hr
  by_cases h : 40 < l.length ∨ lightS s = false
  · exact sw_early hm h2 zb h
  · rw [not_or] at h
    exact sw_main hm h1 h2 hI zb (by omega) (by simpa using h.2)
end Go.Proofs.Ytifemhfpcichfaa
