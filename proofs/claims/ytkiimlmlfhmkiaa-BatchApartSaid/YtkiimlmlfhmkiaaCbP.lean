/- Batch: awake. -/
import Derived.Test.YtkiimlmlfhmkiaaCbN
import Derived.Test.YtkiimlmlfhmkiaaCbO

set_option linter.unusedSimpArgs false
set_option linter.unusedVariables false
set_option maxHeartbeats 4000000
set_option maxRecDepth 100000
namespace Go.Proofs.Ytkiimlmlfhmkiaa
open Go.Av

def wRec : Rec := ⟨0, 0, false, ByteArray.mk #[], false, ByteArray.mk #[118]⟩
def wBat : Bat := ⟨5, 1, 0, 0, 0, [wRec]⟩
theorem wtl1 (x : UInt8) : (ByteArray.mk #[x]).toList = [x] := by rw [ByteArray.toList_eq]
theorem wtl0 : (ByteArray.mk #[]).toList = [] := by rw [ByteArray.toList_eq]
theorem wsz1 (x : UInt8) : (ByteArray.mk #[x]).size = 1 := rfl
theorem wsz0 : (ByteArray.mk #[]).size = 0 := rfl
theorem wrecE : recE wRec = 0 := by simp [recE, wRec, isE, wtl1, wtl0, wsz1, wsz0]
theorem wlay0 : layN 0 = [0] := layN_small (by decide)
theorem wlay2 : layN 2 = [2] := layN_small (by decide)
theorem wlay10 : layN 10 = [10] := layN_small (by decide)
theorem wputR : putR wRec = [0, 0, 0, 2, 118] := by
  rw [putR, if_pos wrecE]
  simp [recP, wRec, wsz1, wsz0, wtl1, bytesNat, show zig 1 = 2 from rfl, show zig 0 = 0 from rfl, wlay0, wlay2]
theorem wbatE : batE wBat = 0 := by
  have h1 : batN wBat = 0 := by simp [batN, wBat]
  have h2 : chkL wBat.ct (-1) wBat.rs = 0 := by simp [wBat, chkL, wrecE]; simp [wRec]
  have h3 : layB wBat = [10, 2, 0, 0, 0, 2, 0, 0, 0, 2, 118] := by
    simp [layB, numsB, hdL, recsB, wBat, wputR, show zig 5 = 10 from rfl, show zig 1 = 2 from rfl, show zig 0 = 0 from rfl, wlay0, wlay2, wlay10]
  simp [batE, h1, h2, h3]
theorem wlayB : layB wBat = [10, 2, 0, 0, 0, 2, 0, 0, 0, 2, 118] := by
  simp [layB, numsB, hdL, recsB, wBat, wputR, show zig 5 = 10 from rfl, show zig 1 = 2 from rfl, show zig 0 = 0 from rfl, wlay0, wlay2, wlay10]
theorem wputB : putB wBat = [10, 2, 0, 0, 0, 2, 0, 0, 0, 2, 118] := by rw [putB, if_pos wbatE, wlayB]
theorem wbatG : batG [10, 2, 0, 0, 0, 2, 0, 0, 0, 2, 118] = (wBat, 0) := by rw [← wlayB]; exact batG_lay wbatE
theorem wat : atW wBat wRec = 5 := rfl
theorem watR : atR wBat 5 = (wRec, true) := by
  have : idxP (fun r => atW wBat r == 5) wBat.rs 0 = 0 := by
    show idxP (fun r => atW wBat r == 5) [wRec] 0 = 0
    simp [idxP, wat]
  simp [atR, this]
  simp [wBat]
theorem wfrom : fromR wBat 6 = [] := by
  show [wRec].filter _ = []
  simp [wat]
theorem wbatS : batS wBat wBat = true := (batS_iff _ _).2 rfl
theorem wok : wBat.ok := by simp [Bat.ok, wBat, I64]
theorem wnew : newL (-1) wBat.rs = 0 := by simp [newL, wBat, wRec]
def wX : List Nat := [10, 2, 0, 0, 0, 2, 0, 0, 0, 2, 118]
theorem wXstr : (bs wX).map Go.Av.byteOf = [10, 2, 0, 0, 0, 2, 0, 0, 0, 2, 118] := rfl
theorem awake_pure : Pure Try.prog 30 [] (.sv (.bool true)) := by
  have e31 := R4_31 wBat
  have e36 := R4_36 wX
  have e39 := R4_39 wBat 5
  have e34 := R4_34 wBat wBat
  have e41 := R4_41 wBat
  have e43 := R4_43 wBat
  have e47 := R4_47 wBat 6
  have e43n := R4_43n
  rw [show putB wBat = wX from wputB, wbatE] at e31
  rw [show batG wX = (wBat, 0) from wbatG] at e36
  rw [watR] at e39
  rw [wbatS] at e34
  rw [wnew] at e43
  rw [wfrom] at e47
  have hok := wok
  have hRL : RL wBat.rs = [.agg [.int .i64 0, .int .i64 0, .bool false, .str (ByteArray.mk #[]), .bool false, .str (ByteArray.mk #[118])]] := rfl
  have hR := R4_ok
  have hnf : R4.nofz = false := rfl
  have hl : wBat.rs.length = 1 := rfl
  have q1 : wBat.ba = 5 := rfl
  have q2 : wBat.ct = 1 := rfl
  have q3 : wBat.pr = 0 := rfl
  have q4 : wBat.ep = 0 := rfl
  have q5 : wBat.sq = 0 := rfl
  have hb : Bytes wX := by simp [Bytes, wX]
  have hxl : wX.length < 140737488355328 := by simp [wX]
  have hxs := wXstr
  have hby := bs_byte wX
  simp only [bsv, rsv, hRL, hl, q1, q2, q3, q4, q5, wRec] at e31 e36 e39 e34 e41 e43 e47
  generalize R4 = R at hR e31 e36 e39 e34 e41 e43 e47 e43n hnf
  generalize wX = X at e31 e36 hb hxl hxs hby
  clear hRL q1 q2 q3 q4 q5 hl
  have hw6 : IntKind.i64.wrap ((5 : Int) + 1) = 6 := rfl
  refine pure_go hR Try.func30 Try.ntmps30 comp30 cres30 (by decide) (by simp) ?_
  simp (maxSteps := 1000000) [ac30, ar30, e31, e36, e39, e34, e41, e43, e43n, e47, hok, hnf, hb, hxl, hxs, hw6]
  exact ⟨hby, rfl⟩
end Go.Proofs.Ytkiimlmlfhmkiaa
